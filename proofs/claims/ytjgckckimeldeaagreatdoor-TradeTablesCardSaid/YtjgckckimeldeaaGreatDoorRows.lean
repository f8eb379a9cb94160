/-
  NARROWER THAN 'FOR EVERY INPUT', by the rows' own cells (each row's printed sentence says how): TradeOffers: laid · TradeAllots: laid · TradePlans: laid · TradeTables: laid · TradeSettles: laid · TradeStrings: laid · TradeOnce: laid · TradeBest: laid · TradePays: laid.
  DERIVED. THE GIVEN ROWS OF THIS SEAT. 9 by the template 'for every input the law returns true; each argument reads behind the call as it read before'; 0 by the template 'total and deterministic' (their statements: YtjgckckimeldeaaGreatDoorTotals.lean).
  GIVEN WITH THE SEED: the statements are not yours to turn. If you find one false, say at which input.
  Laid BY PROGRAM, IN A SANDBOX (cutbox-rows.mjs): the forced cells as the released guide's own fill.sh prints them over the translation 3d25ab8a7a20e18a… (all of the seat's roots in one cut). By AI agents, Wed Nov 11 2026. No macro, syntax, notation, axiom, sorry.
-/
import Derived.Test.YtjgckckimeldeaaGreatDoorChecked
import GoSem.PinnedTables
import GoSem.Claim
import GoSem.ClaimJoined
import GoSem.ClaimMapViews
import Derived.JoinedTies
import Derived.KernelRfl
namespace Go.Proofs.YtjgckckimeldeaaGreatDoor
/- THE CELL 'sum', in the pinned program and in every row, IS THE sha256 OF THE DUMP (.gsa) THAT YtjgckckimeldeaaGreatDoorProg.lean LOADS. Nothing in Lean hashes anything: it is a label: what it is worth is what the hold of that sum in a sandbox is worth. -/
noncomputable def Tryz.pinned : Pinned := { name := "ytjgckckimeldeaagreatdoor", sum := "3d25ab8a7a20e18a6ef2c460e670a886e8dfe5db14d50f47bd7997eb6790ed88", checked := Tryz.checked }
namespace Rows
def none {H : Type} : Left H := { results := [], args := [] }

/- WHAT THE LISTED PACKAGE-LEVEL VARIABLES READ AS WHEN THE CALL BEGINS. Each datum BY PROGRAM (the guide's laid-datum.mjs) off the statement by which the dump's own 'gosem.cut.vars' lays the variable. In a bare row this is a premise. The card (YtjgckckimeldeaaGreatDoorCards.lean) ties it to the program's text. -/
def laid_math_bits_deBruijn32tab {H : Type} : DataW H := .agg [.lit (.int .u8 0), .lit (.int .u8 1), .lit (.int .u8 28), .lit (.int .u8 2), .lit (.int .u8 29), .lit (.int .u8 14), .lit (.int .u8 24), .lit (.int .u8 3), .lit (.int .u8 30), .lit (.int .u8 22), .lit (.int .u8 20), .lit (.int .u8 15), .lit (.int .u8 25), .lit (.int .u8 17), .lit (.int .u8 4), .lit (.int .u8 8), .lit (.int .u8 31), .lit (.int .u8 27), .lit (.int .u8 13), .lit (.int .u8 23), .lit (.int .u8 21), .lit (.int .u8 19), .lit (.int .u8 16), .lit (.int .u8 7), .lit (.int .u8 26), .lit (.int .u8 12), .lit (.int .u8 18), .lit (.int .u8 6), .lit (.int .u8 11), .lit (.int .u8 5), .lit (.int .u8 10), .lit (.int .u8 9)]
def laid_math_bits_deBruijn64tab {H : Type} : DataW H := .agg [.lit (.int .u8 0), .lit (.int .u8 1), .lit (.int .u8 56), .lit (.int .u8 2), .lit (.int .u8 57), .lit (.int .u8 49), .lit (.int .u8 28), .lit (.int .u8 3), .lit (.int .u8 61), .lit (.int .u8 58), .lit (.int .u8 42), .lit (.int .u8 50), .lit (.int .u8 38), .lit (.int .u8 29), .lit (.int .u8 17), .lit (.int .u8 4), .lit (.int .u8 62), .lit (.int .u8 47), .lit (.int .u8 59), .lit (.int .u8 36), .lit (.int .u8 45), .lit (.int .u8 43), .lit (.int .u8 51), .lit (.int .u8 22), .lit (.int .u8 53), .lit (.int .u8 39), .lit (.int .u8 33), .lit (.int .u8 30), .lit (.int .u8 24), .lit (.int .u8 18), .lit (.int .u8 12), .lit (.int .u8 5), .lit (.int .u8 63), .lit (.int .u8 55), .lit (.int .u8 48), .lit (.int .u8 27), .lit (.int .u8 60), .lit (.int .u8 41), .lit (.int .u8 37), .lit (.int .u8 16), .lit (.int .u8 46), .lit (.int .u8 35), .lit (.int .u8 44), .lit (.int .u8 21), .lit (.int .u8 52), .lit (.int .u8 32), .lit (.int .u8 23), .lit (.int .u8 11), .lit (.int .u8 54), .lit (.int .u8 26), .lit (.int .u8 40), .lit (.int .u8 15), .lit (.int .u8 34), .lit (.int .u8 20), .lit (.int .u8 31), .lit (.int .u8 10), .lit (.int .u8 25), .lit (.int .u8 14), .lit (.int .u8 19), .lit (.int .u8 9), .lit (.int .u8 13), .lit (.int .u8 8), .lit (.int .u8 7), .lit (.int .u8 6)]
def laid_internal_strconv_uint64pow10 {H : Type} : DataW H := .agg [.lit (.int .u64 1), .lit (.int .u64 10), .lit (.int .u64 100), .lit (.int .u64 1000), .lit (.int .u64 10000), .lit (.int .u64 100000), .lit (.int .u64 1000000), .lit (.int .u64 10000000), .lit (.int .u64 100000000), .lit (.int .u64 1000000000), .lit (.int .u64 10000000000), .lit (.int .u64 100000000000), .lit (.int .u64 1000000000000), .lit (.int .u64 10000000000000), .lit (.int .u64 100000000000000), .lit (.int .u64 1000000000000000), .lit (.int .u64 10000000000000000), .lit (.int .u64 100000000000000000), .lit (.int .u64 1000000000000000000), .lit (.int .u64 10000000000000000000)]
def laid_unicode_utf8_acceptRanges {H : Type} : DataW H := .agg [.agg [.lit (.int .u8 128), .lit (.int .u8 191)], .agg [.lit (.int .u8 160), .lit (.int .u8 191)], .agg [.lit (.int .u8 128), .lit (.int .u8 159)], .agg [.lit (.int .u8 144), .lit (.int .u8 191)], .agg [.lit (.int .u8 128), .lit (.int .u8 143)], .agg [.lit (.int .u8 0), .lit (.int .u8 0)], .agg [.lit (.int .u8 0), .lit (.int .u8 0)], .agg [.lit (.int .u8 0), .lit (.int .u8 0)], .agg [.lit (.int .u8 0), .lit (.int .u8 0)], .agg [.lit (.int .u8 0), .lit (.int .u8 0)], .agg [.lit (.int .u8 0), .lit (.int .u8 0)], .agg [.lit (.int .u8 0), .lit (.int .u8 0)], .agg [.lit (.int .u8 0), .lit (.int .u8 0)], .agg [.lit (.int .u8 0), .lit (.int .u8 0)], .agg [.lit (.int .u8 0), .lit (.int .u8 0)], .agg [.lit (.int .u8 0), .lit (.int .u8 0)]]
def laid_combiner_trade_free {H : Type} : DataW H := .agg [.lit (.int .i64 0), .lit (.int .i64 0)]
def laid_combiner_trade_words {H : Type} : DataW H := .agg [.lit (.string [111, 102, 102, 101, 114])]
/-- One of Go's own tables, pinned by name: the form's constant. -/
def laid_unicode_utf8_first : DataW Unit := Go.Pinned.utf8First

/-- 'combinerlaw09.TradeOffers': WHATEVER THE INPUT: true; the input reads as it did. -/
def tradeOffersSpec : ChangeSpec := { name := "tradeOffers", fn := fun _ => fun
  | [d1, d2, d3] => { results := [.lit (.bool true)], args := [d1, d2, d3] }
  | _ => none }
def tradeOffersRow : OpenClaim := { program := "ytjgckckimeldeaagreatdoor", sum := "3d25ab8a7a20e18a6ef2c460e670a886e8dfe5db14d50f47bd7997eb6790ed88", func := "combiner/combinerlaw09.TradeOffers", spec := "tradeOffers", inPlace := ["internal/abi.NoEscape", "internal/bytealg.MakeNoZero", "internal/bytealg.IndexByteString", "internal/bytealg.CountString", "internal/bytealg.IndexString"], unfollowed := true, recurses := true, named := ["combiner/trade.free", "combiner/trade.words", "internal/strconv.uint64pow10", "math/bits.deBruijn32tab", "math/bits.deBruijn64tab", "unicode/utf8.first", "unicode/utf8.acceptRanges", "internal/bytealg.MaxLen"], apart := false, laid := [("math/bits.deBruijn32tab", laid_math_bits_deBruijn32tab), ("math/bits.deBruijn64tab", laid_math_bits_deBruijn64tab), ("internal/strconv.uint64pow10", laid_internal_strconv_uint64pow10), ("unicode/utf8.acceptRanges", laid_unicode_utf8_acceptRanges), ("combiner/trade.free", laid_combiner_trade_free), ("combiner/trade.words", laid_combiner_trade_words), ("unicode/utf8.first", laid_unicode_utf8_first)] }
def TradeOffersSaid : Prop := tradeOffersRow.holds Tryz.pinned (OpenSpec.ofChange tradeOffersSpec)

/-- ITS FALSE NEIGHBOUR: 'it returns false'. Refute it at one input. -/
def tradeOffersWrong : ChangeSpec := { name := "tradeOffers", fn := fun _ => fun
  | [d1, d2, d3] => { results := [.lit (.bool false)], args := [d1, d2, d3] }
  | _ => none }
def TradeOffersWrongFalsely : Prop := tradeOffersRow.holds Tryz.pinned (OpenSpec.ofChange tradeOffersWrong)

/-- 'combinerlaw09.TradeAllots': WHATEVER THE INPUT: true; the input reads as it did. -/
def tradeAllotsSpec : ChangeSpec := { name := "tradeAllots", fn := fun _ => fun
  | [d1, d2] => { results := [.lit (.bool true)], args := [d1, d2] }
  | _ => none }
def tradeAllotsRow : OpenClaim := { program := "ytjgckckimeldeaagreatdoor", sum := "3d25ab8a7a20e18a6ef2c460e670a886e8dfe5db14d50f47bd7997eb6790ed88", func := "combiner/combinerlaw09.TradeAllots", spec := "tradeAllots", inPlace := ["internal/abi.NoEscape", "internal/bytealg.MakeNoZero", "internal/bytealg.IndexByteString", "internal/bytealg.CountString", "internal/bytealg.IndexString"], unfollowed := true, recurses := true, named := ["combiner/trade.free", "combiner/trade.words", "internal/strconv.uint64pow10", "math/bits.deBruijn32tab", "math/bits.deBruijn64tab", "unicode/utf8.first", "unicode/utf8.acceptRanges", "internal/bytealg.MaxLen"], apart := false, laid := [("math/bits.deBruijn32tab", laid_math_bits_deBruijn32tab), ("math/bits.deBruijn64tab", laid_math_bits_deBruijn64tab), ("internal/strconv.uint64pow10", laid_internal_strconv_uint64pow10), ("unicode/utf8.acceptRanges", laid_unicode_utf8_acceptRanges), ("combiner/trade.free", laid_combiner_trade_free), ("combiner/trade.words", laid_combiner_trade_words), ("unicode/utf8.first", laid_unicode_utf8_first)] }
def TradeAllotsSaid : Prop := tradeAllotsRow.holds Tryz.pinned (OpenSpec.ofChange tradeAllotsSpec)

/-- ITS FALSE NEIGHBOUR: 'it returns false'. Refute it at one input. -/
def tradeAllotsWrong : ChangeSpec := { name := "tradeAllots", fn := fun _ => fun
  | [d1, d2] => { results := [.lit (.bool false)], args := [d1, d2] }
  | _ => none }
def TradeAllotsWrongFalsely : Prop := tradeAllotsRow.holds Tryz.pinned (OpenSpec.ofChange tradeAllotsWrong)

/-- 'combinerlaw09.TradePlans': WHATEVER THE INPUT: true; the input reads as it did. -/
def tradePlansSpec : ChangeSpec := { name := "tradePlans", fn := fun _ => fun
  | [d1, d2, d3] => { results := [.lit (.bool true)], args := [d1, d2, d3] }
  | _ => none }
def tradePlansRow : OpenClaim := { program := "ytjgckckimeldeaagreatdoor", sum := "3d25ab8a7a20e18a6ef2c460e670a886e8dfe5db14d50f47bd7997eb6790ed88", func := "combiner/combinerlaw09.TradePlans", spec := "tradePlans", inPlace := ["internal/abi.NoEscape", "internal/bytealg.MakeNoZero", "internal/bytealg.IndexByteString", "internal/bytealg.CountString", "internal/bytealg.IndexString"], unfollowed := true, recurses := true, named := ["combiner/trade.free", "combiner/trade.words", "internal/strconv.uint64pow10", "math/bits.deBruijn32tab", "math/bits.deBruijn64tab", "unicode/utf8.first", "unicode/utf8.acceptRanges", "internal/bytealg.MaxLen"], apart := false, laid := [("math/bits.deBruijn32tab", laid_math_bits_deBruijn32tab), ("math/bits.deBruijn64tab", laid_math_bits_deBruijn64tab), ("internal/strconv.uint64pow10", laid_internal_strconv_uint64pow10), ("unicode/utf8.acceptRanges", laid_unicode_utf8_acceptRanges), ("combiner/trade.free", laid_combiner_trade_free), ("combiner/trade.words", laid_combiner_trade_words), ("unicode/utf8.first", laid_unicode_utf8_first)] }
def TradePlansSaid : Prop := tradePlansRow.holds Tryz.pinned (OpenSpec.ofChange tradePlansSpec)

/-- ITS FALSE NEIGHBOUR: 'it returns false'. Refute it at one input. -/
def tradePlansWrong : ChangeSpec := { name := "tradePlans", fn := fun _ => fun
  | [d1, d2, d3] => { results := [.lit (.bool false)], args := [d1, d2, d3] }
  | _ => none }
def TradePlansWrongFalsely : Prop := tradePlansRow.holds Tryz.pinned (OpenSpec.ofChange tradePlansWrong)

/-- 'combinerlaw09.TradeTables': WHATEVER THE INPUT: true; the input reads as it did. -/
def tradeTablesSpec : ChangeSpec := { name := "tradeTables", fn := fun _ => fun
  | [d1, d2, d3] => { results := [.lit (.bool true)], args := [d1, d2, d3] }
  | _ => none }
def tradeTablesRow : OpenClaim := { program := "ytjgckckimeldeaagreatdoor", sum := "3d25ab8a7a20e18a6ef2c460e670a886e8dfe5db14d50f47bd7997eb6790ed88", func := "combiner/combinerlaw09.TradeTables", spec := "tradeTables", inPlace := ["internal/abi.NoEscape", "internal/bytealg.MakeNoZero", "internal/bytealg.IndexByteString", "internal/bytealg.CountString", "internal/bytealg.IndexString"], unfollowed := true, recurses := true, named := ["combiner/trade.free", "combiner/trade.words", "internal/strconv.uint64pow10", "math/bits.deBruijn32tab", "math/bits.deBruijn64tab", "unicode/utf8.first", "unicode/utf8.acceptRanges", "internal/bytealg.MaxLen"], apart := false, laid := [("math/bits.deBruijn32tab", laid_math_bits_deBruijn32tab), ("math/bits.deBruijn64tab", laid_math_bits_deBruijn64tab), ("internal/strconv.uint64pow10", laid_internal_strconv_uint64pow10), ("unicode/utf8.acceptRanges", laid_unicode_utf8_acceptRanges), ("combiner/trade.free", laid_combiner_trade_free), ("combiner/trade.words", laid_combiner_trade_words), ("unicode/utf8.first", laid_unicode_utf8_first)] }
def TradeTablesSaid : Prop := tradeTablesRow.holds Tryz.pinned (OpenSpec.ofChange tradeTablesSpec)

/-- ITS FALSE NEIGHBOUR: 'it returns false'. Refute it at one input. -/
def tradeTablesWrong : ChangeSpec := { name := "tradeTables", fn := fun _ => fun
  | [d1, d2, d3] => { results := [.lit (.bool false)], args := [d1, d2, d3] }
  | _ => none }
def TradeTablesWrongFalsely : Prop := tradeTablesRow.holds Tryz.pinned (OpenSpec.ofChange tradeTablesWrong)

/-- 'combinerlaw09.TradeSettles': WHATEVER THE INPUT: true; the input reads as it did. -/
def tradeSettlesSpec : ChangeSpec := { name := "tradeSettles", fn := fun _ => fun
  | [d1, d2, d3] => { results := [.lit (.bool true)], args := [d1, d2, d3] }
  | _ => none }
def tradeSettlesRow : OpenClaim := { program := "ytjgckckimeldeaagreatdoor", sum := "3d25ab8a7a20e18a6ef2c460e670a886e8dfe5db14d50f47bd7997eb6790ed88", func := "combiner/combinerlaw09.TradeSettles", spec := "tradeSettles", inPlace := ["internal/abi.NoEscape", "internal/bytealg.MakeNoZero", "internal/bytealg.IndexByteString", "internal/bytealg.CountString", "internal/bytealg.IndexString"], unfollowed := true, recurses := true, named := ["combiner/trade.free", "combiner/trade.words", "internal/strconv.uint64pow10", "math/bits.deBruijn32tab", "math/bits.deBruijn64tab", "unicode/utf8.first", "unicode/utf8.acceptRanges", "internal/bytealg.MaxLen"], apart := false, laid := [("math/bits.deBruijn32tab", laid_math_bits_deBruijn32tab), ("math/bits.deBruijn64tab", laid_math_bits_deBruijn64tab), ("internal/strconv.uint64pow10", laid_internal_strconv_uint64pow10), ("unicode/utf8.acceptRanges", laid_unicode_utf8_acceptRanges), ("combiner/trade.free", laid_combiner_trade_free), ("combiner/trade.words", laid_combiner_trade_words), ("unicode/utf8.first", laid_unicode_utf8_first)] }
def TradeSettlesSaid : Prop := tradeSettlesRow.holds Tryz.pinned (OpenSpec.ofChange tradeSettlesSpec)

/-- ITS FALSE NEIGHBOUR: 'it returns false'. Refute it at one input. -/
def tradeSettlesWrong : ChangeSpec := { name := "tradeSettles", fn := fun _ => fun
  | [d1, d2, d3] => { results := [.lit (.bool false)], args := [d1, d2, d3] }
  | _ => none }
def TradeSettlesWrongFalsely : Prop := tradeSettlesRow.holds Tryz.pinned (OpenSpec.ofChange tradeSettlesWrong)

/-- 'combinerlaw09.TradeStrings': WHATEVER THE INPUT: true; the input reads as it did. -/
def tradeStringsSpec : ChangeSpec := { name := "tradeStrings", fn := fun _ => fun
  | [d1, d2] => { results := [.lit (.bool true)], args := [d1, d2] }
  | _ => none }
def tradeStringsRow : OpenClaim := { program := "ytjgckckimeldeaagreatdoor", sum := "3d25ab8a7a20e18a6ef2c460e670a886e8dfe5db14d50f47bd7997eb6790ed88", func := "combiner/combinerlaw09.TradeStrings", spec := "tradeStrings", inPlace := ["internal/abi.NoEscape", "internal/bytealg.MakeNoZero", "internal/bytealg.IndexByteString", "internal/bytealg.CountString", "internal/bytealg.IndexString"], unfollowed := true, recurses := true, named := ["combiner/trade.free", "combiner/trade.words", "internal/strconv.uint64pow10", "math/bits.deBruijn32tab", "math/bits.deBruijn64tab", "unicode/utf8.first", "unicode/utf8.acceptRanges", "internal/bytealg.MaxLen"], apart := false, laid := [("math/bits.deBruijn32tab", laid_math_bits_deBruijn32tab), ("math/bits.deBruijn64tab", laid_math_bits_deBruijn64tab), ("internal/strconv.uint64pow10", laid_internal_strconv_uint64pow10), ("unicode/utf8.acceptRanges", laid_unicode_utf8_acceptRanges), ("combiner/trade.free", laid_combiner_trade_free), ("combiner/trade.words", laid_combiner_trade_words), ("unicode/utf8.first", laid_unicode_utf8_first)] }
def TradeStringsSaid : Prop := tradeStringsRow.holds Tryz.pinned (OpenSpec.ofChange tradeStringsSpec)

/-- ITS FALSE NEIGHBOUR: 'it returns false'. Refute it at one input. -/
def tradeStringsWrong : ChangeSpec := { name := "tradeStrings", fn := fun _ => fun
  | [d1, d2] => { results := [.lit (.bool false)], args := [d1, d2] }
  | _ => none }
def TradeStringsWrongFalsely : Prop := tradeStringsRow.holds Tryz.pinned (OpenSpec.ofChange tradeStringsWrong)

/-- 'combinerlaw09.TradeOnce': WHATEVER THE INPUT: true; the input reads as it did. -/
def tradeOnceSpec : ChangeSpec := { name := "tradeOnce", fn := fun _ => fun
  | [d1, d2, d3] => { results := [.lit (.bool true)], args := [d1, d2, d3] }
  | _ => none }
def tradeOnceRow : OpenClaim := { program := "ytjgckckimeldeaagreatdoor", sum := "3d25ab8a7a20e18a6ef2c460e670a886e8dfe5db14d50f47bd7997eb6790ed88", func := "combiner/combinerlaw09.TradeOnce", spec := "tradeOnce", inPlace := ["internal/abi.NoEscape", "internal/bytealg.MakeNoZero", "internal/bytealg.IndexByteString", "internal/bytealg.CountString", "internal/bytealg.IndexString"], unfollowed := true, recurses := true, named := ["combiner/trade.free", "combiner/trade.words", "internal/strconv.uint64pow10", "math/bits.deBruijn32tab", "math/bits.deBruijn64tab", "unicode/utf8.first", "unicode/utf8.acceptRanges", "internal/bytealg.MaxLen"], apart := false, laid := [("math/bits.deBruijn32tab", laid_math_bits_deBruijn32tab), ("math/bits.deBruijn64tab", laid_math_bits_deBruijn64tab), ("internal/strconv.uint64pow10", laid_internal_strconv_uint64pow10), ("unicode/utf8.acceptRanges", laid_unicode_utf8_acceptRanges), ("combiner/trade.free", laid_combiner_trade_free), ("combiner/trade.words", laid_combiner_trade_words), ("unicode/utf8.first", laid_unicode_utf8_first)] }
def TradeOnceSaid : Prop := tradeOnceRow.holds Tryz.pinned (OpenSpec.ofChange tradeOnceSpec)

/-- ITS FALSE NEIGHBOUR: 'it returns false'. Refute it at one input. -/
def tradeOnceWrong : ChangeSpec := { name := "tradeOnce", fn := fun _ => fun
  | [d1, d2, d3] => { results := [.lit (.bool false)], args := [d1, d2, d3] }
  | _ => none }
def TradeOnceWrongFalsely : Prop := tradeOnceRow.holds Tryz.pinned (OpenSpec.ofChange tradeOnceWrong)

/-- 'combinerlaw09.TradeBest': WHATEVER THE INPUT: true; the input reads as it did. -/
def tradeBestSpec : ChangeSpec := { name := "tradeBest", fn := fun _ => fun
  | [d1, d2, d3] => { results := [.lit (.bool true)], args := [d1, d2, d3] }
  | _ => none }
def tradeBestRow : OpenClaim := { program := "ytjgckckimeldeaagreatdoor", sum := "3d25ab8a7a20e18a6ef2c460e670a886e8dfe5db14d50f47bd7997eb6790ed88", func := "combiner/combinerlaw09.TradeBest", spec := "tradeBest", inPlace := ["internal/abi.NoEscape", "internal/bytealg.MakeNoZero", "internal/bytealg.IndexByteString", "internal/bytealg.CountString", "internal/bytealg.IndexString"], unfollowed := true, recurses := true, named := ["combiner/trade.free", "combiner/trade.words", "internal/strconv.uint64pow10", "math/bits.deBruijn32tab", "math/bits.deBruijn64tab", "unicode/utf8.first", "unicode/utf8.acceptRanges", "internal/bytealg.MaxLen"], apart := false, laid := [("math/bits.deBruijn32tab", laid_math_bits_deBruijn32tab), ("math/bits.deBruijn64tab", laid_math_bits_deBruijn64tab), ("internal/strconv.uint64pow10", laid_internal_strconv_uint64pow10), ("unicode/utf8.acceptRanges", laid_unicode_utf8_acceptRanges), ("combiner/trade.free", laid_combiner_trade_free), ("combiner/trade.words", laid_combiner_trade_words), ("unicode/utf8.first", laid_unicode_utf8_first)] }
def TradeBestSaid : Prop := tradeBestRow.holds Tryz.pinned (OpenSpec.ofChange tradeBestSpec)

/-- ITS FALSE NEIGHBOUR: 'it returns false'. Refute it at one input. -/
def tradeBestWrong : ChangeSpec := { name := "tradeBest", fn := fun _ => fun
  | [d1, d2, d3] => { results := [.lit (.bool false)], args := [d1, d2, d3] }
  | _ => none }
def TradeBestWrongFalsely : Prop := tradeBestRow.holds Tryz.pinned (OpenSpec.ofChange tradeBestWrong)

/-- 'combinerlaw09.TradePays': WHATEVER THE INPUT: true; the input reads as it did. -/
def tradePaysSpec : ChangeSpec := { name := "tradePays", fn := fun _ => fun
  | [d1, d2, d3] => { results := [.lit (.bool true)], args := [d1, d2, d3] }
  | _ => none }
def tradePaysRow : OpenClaim := { program := "ytjgckckimeldeaagreatdoor", sum := "3d25ab8a7a20e18a6ef2c460e670a886e8dfe5db14d50f47bd7997eb6790ed88", func := "combiner/combinerlaw09.TradePays", spec := "tradePays", inPlace := ["internal/abi.NoEscape", "internal/bytealg.MakeNoZero", "internal/bytealg.IndexByteString", "internal/bytealg.CountString", "internal/bytealg.IndexString"], unfollowed := true, recurses := true, named := ["combiner/trade.free", "combiner/trade.words", "internal/strconv.uint64pow10", "math/bits.deBruijn32tab", "math/bits.deBruijn64tab", "unicode/utf8.first", "unicode/utf8.acceptRanges", "internal/bytealg.MaxLen"], apart := false, laid := [("math/bits.deBruijn32tab", laid_math_bits_deBruijn32tab), ("math/bits.deBruijn64tab", laid_math_bits_deBruijn64tab), ("internal/strconv.uint64pow10", laid_internal_strconv_uint64pow10), ("unicode/utf8.acceptRanges", laid_unicode_utf8_acceptRanges), ("combiner/trade.free", laid_combiner_trade_free), ("combiner/trade.words", laid_combiner_trade_words), ("unicode/utf8.first", laid_unicode_utf8_first)] }
def TradePaysSaid : Prop := tradePaysRow.holds Tryz.pinned (OpenSpec.ofChange tradePaysSpec)

/-- ITS FALSE NEIGHBOUR: 'it returns false'. Refute it at one input. -/
def tradePaysWrong : ChangeSpec := { name := "tradePays", fn := fun _ => fun
  | [d1, d2, d3] => { results := [.lit (.bool false)], args := [d1, d2, d3] }
  | _ => none }
def TradePaysWrongFalsely : Prop := tradePaysRow.holds Tryz.pinned (OpenSpec.ofChange tradePaysWrong)

/- THE SECOND FORM. 'bulk': how many values and letters a reading holds, each counted each time it is reached (what is shared counts as often as it is met; a slice's spare places count too). A statement '..UptoSaid' is the law's where the arguments, and the package variables that the reading takes, are together of bulk at most 1048576: NARROWER than '..Said'. Prove '..Said' where nothing that the law and all that it calls make is longer than what came in: it says more and counts as full. Else prove '..UptoSaid'. A law counts once. -/
mutual
def uptoBulk {H : Type} : DataW H → Nat
  | .lit (.string bytes) => bytes.length + 1
  | .lit _ => 1
  | .nil => 1
  | .ptr d => uptoBulk d + 1
  | .slice elems spare => uptoBulkAll elems + uptoBulkAll spare + 1
  | .agg parts => uptoBulkAll parts + 1
  | .iface _ d => uptoBulk d + 1
  | .map entries => uptoBulkEntries entries + 1
  | .held _ => 1
def uptoBulkAll {H : Type} : List (DataW H) → Nat
  | [] => 0
  | d :: r => uptoBulk d + uptoBulkAll r
def uptoBulkEntries {H : Type} : List (Lit × DataW H) → Nat
  | [] => 0
  | x :: r => uptoBulkEntry x + uptoBulkEntries r
def uptoBulkEntry {H : Type} : Lit × DataW H → Nat
  | (.string bytes, d) => bytes.length + uptoBulk d + 1
  | (_, d) => uptoBulk d + 1
 end
def uptoSmall : (H : Type) → List (DataW H) → Bool := fun _ ds => decide (uptoBulkAll ds ≤ 1048576)
def OpenSpec.upto (s : _root_.Go.ChangeSpec) : _root_.Go.OpenSpec := { _root_.Go.OpenSpec.ofChange s with cond := some uptoSmall }

/-- 'combinerlaw09.TradeOffers', WHERE WHAT IT READS IS OF BULK AT MOST 1048576: true; the input reads as it did. -/
def tradeOffersUptoRow : OpenClaim := { program := "ytjgckckimeldeaagreatdoor", sum := "3d25ab8a7a20e18a6ef2c460e670a886e8dfe5db14d50f47bd7997eb6790ed88", func := "combiner/combinerlaw09.TradeOffers", spec := "tradeOffers", inPlace := ["internal/abi.NoEscape", "internal/bytealg.MakeNoZero", "internal/bytealg.IndexByteString", "internal/bytealg.CountString", "internal/bytealg.IndexString"], unfollowed := true, recurses := true, named := ["combiner/trade.free", "combiner/trade.words", "internal/strconv.uint64pow10", "math/bits.deBruijn32tab", "math/bits.deBruijn64tab", "unicode/utf8.first", "unicode/utf8.acceptRanges", "internal/bytealg.MaxLen"], apart := false, laid := [("math/bits.deBruijn32tab", laid_math_bits_deBruijn32tab), ("math/bits.deBruijn64tab", laid_math_bits_deBruijn64tab), ("internal/strconv.uint64pow10", laid_internal_strconv_uint64pow10), ("unicode/utf8.acceptRanges", laid_unicode_utf8_acceptRanges), ("combiner/trade.free", laid_combiner_trade_free), ("combiner/trade.words", laid_combiner_trade_words), ("unicode/utf8.first", laid_unicode_utf8_first)], narrowed := true }
def TradeOffersUptoSaid : Prop := tradeOffersUptoRow.holds Tryz.pinned (OpenSpec.upto tradeOffersSpec)

/-- 'combinerlaw09.TradeAllots', WHERE WHAT IT READS IS OF BULK AT MOST 1048576: true; the input reads as it did. -/
def tradeAllotsUptoRow : OpenClaim := { program := "ytjgckckimeldeaagreatdoor", sum := "3d25ab8a7a20e18a6ef2c460e670a886e8dfe5db14d50f47bd7997eb6790ed88", func := "combiner/combinerlaw09.TradeAllots", spec := "tradeAllots", inPlace := ["internal/abi.NoEscape", "internal/bytealg.MakeNoZero", "internal/bytealg.IndexByteString", "internal/bytealg.CountString", "internal/bytealg.IndexString"], unfollowed := true, recurses := true, named := ["combiner/trade.free", "combiner/trade.words", "internal/strconv.uint64pow10", "math/bits.deBruijn32tab", "math/bits.deBruijn64tab", "unicode/utf8.first", "unicode/utf8.acceptRanges", "internal/bytealg.MaxLen"], apart := false, laid := [("math/bits.deBruijn32tab", laid_math_bits_deBruijn32tab), ("math/bits.deBruijn64tab", laid_math_bits_deBruijn64tab), ("internal/strconv.uint64pow10", laid_internal_strconv_uint64pow10), ("unicode/utf8.acceptRanges", laid_unicode_utf8_acceptRanges), ("combiner/trade.free", laid_combiner_trade_free), ("combiner/trade.words", laid_combiner_trade_words), ("unicode/utf8.first", laid_unicode_utf8_first)], narrowed := true }
def TradeAllotsUptoSaid : Prop := tradeAllotsUptoRow.holds Tryz.pinned (OpenSpec.upto tradeAllotsSpec)

/-- 'combinerlaw09.TradePlans', WHERE WHAT IT READS IS OF BULK AT MOST 1048576: true; the input reads as it did. -/
def tradePlansUptoRow : OpenClaim := { program := "ytjgckckimeldeaagreatdoor", sum := "3d25ab8a7a20e18a6ef2c460e670a886e8dfe5db14d50f47bd7997eb6790ed88", func := "combiner/combinerlaw09.TradePlans", spec := "tradePlans", inPlace := ["internal/abi.NoEscape", "internal/bytealg.MakeNoZero", "internal/bytealg.IndexByteString", "internal/bytealg.CountString", "internal/bytealg.IndexString"], unfollowed := true, recurses := true, named := ["combiner/trade.free", "combiner/trade.words", "internal/strconv.uint64pow10", "math/bits.deBruijn32tab", "math/bits.deBruijn64tab", "unicode/utf8.first", "unicode/utf8.acceptRanges", "internal/bytealg.MaxLen"], apart := false, laid := [("math/bits.deBruijn32tab", laid_math_bits_deBruijn32tab), ("math/bits.deBruijn64tab", laid_math_bits_deBruijn64tab), ("internal/strconv.uint64pow10", laid_internal_strconv_uint64pow10), ("unicode/utf8.acceptRanges", laid_unicode_utf8_acceptRanges), ("combiner/trade.free", laid_combiner_trade_free), ("combiner/trade.words", laid_combiner_trade_words), ("unicode/utf8.first", laid_unicode_utf8_first)], narrowed := true }
def TradePlansUptoSaid : Prop := tradePlansUptoRow.holds Tryz.pinned (OpenSpec.upto tradePlansSpec)

/-- 'combinerlaw09.TradeTables', WHERE WHAT IT READS IS OF BULK AT MOST 1048576: true; the input reads as it did. -/
def tradeTablesUptoRow : OpenClaim := { program := "ytjgckckimeldeaagreatdoor", sum := "3d25ab8a7a20e18a6ef2c460e670a886e8dfe5db14d50f47bd7997eb6790ed88", func := "combiner/combinerlaw09.TradeTables", spec := "tradeTables", inPlace := ["internal/abi.NoEscape", "internal/bytealg.MakeNoZero", "internal/bytealg.IndexByteString", "internal/bytealg.CountString", "internal/bytealg.IndexString"], unfollowed := true, recurses := true, named := ["combiner/trade.free", "combiner/trade.words", "internal/strconv.uint64pow10", "math/bits.deBruijn32tab", "math/bits.deBruijn64tab", "unicode/utf8.first", "unicode/utf8.acceptRanges", "internal/bytealg.MaxLen"], apart := false, laid := [("math/bits.deBruijn32tab", laid_math_bits_deBruijn32tab), ("math/bits.deBruijn64tab", laid_math_bits_deBruijn64tab), ("internal/strconv.uint64pow10", laid_internal_strconv_uint64pow10), ("unicode/utf8.acceptRanges", laid_unicode_utf8_acceptRanges), ("combiner/trade.free", laid_combiner_trade_free), ("combiner/trade.words", laid_combiner_trade_words), ("unicode/utf8.first", laid_unicode_utf8_first)], narrowed := true }
def TradeTablesUptoSaid : Prop := tradeTablesUptoRow.holds Tryz.pinned (OpenSpec.upto tradeTablesSpec)

/-- 'combinerlaw09.TradeSettles', WHERE WHAT IT READS IS OF BULK AT MOST 1048576: true; the input reads as it did. -/
def tradeSettlesUptoRow : OpenClaim := { program := "ytjgckckimeldeaagreatdoor", sum := "3d25ab8a7a20e18a6ef2c460e670a886e8dfe5db14d50f47bd7997eb6790ed88", func := "combiner/combinerlaw09.TradeSettles", spec := "tradeSettles", inPlace := ["internal/abi.NoEscape", "internal/bytealg.MakeNoZero", "internal/bytealg.IndexByteString", "internal/bytealg.CountString", "internal/bytealg.IndexString"], unfollowed := true, recurses := true, named := ["combiner/trade.free", "combiner/trade.words", "internal/strconv.uint64pow10", "math/bits.deBruijn32tab", "math/bits.deBruijn64tab", "unicode/utf8.first", "unicode/utf8.acceptRanges", "internal/bytealg.MaxLen"], apart := false, laid := [("math/bits.deBruijn32tab", laid_math_bits_deBruijn32tab), ("math/bits.deBruijn64tab", laid_math_bits_deBruijn64tab), ("internal/strconv.uint64pow10", laid_internal_strconv_uint64pow10), ("unicode/utf8.acceptRanges", laid_unicode_utf8_acceptRanges), ("combiner/trade.free", laid_combiner_trade_free), ("combiner/trade.words", laid_combiner_trade_words), ("unicode/utf8.first", laid_unicode_utf8_first)], narrowed := true }
def TradeSettlesUptoSaid : Prop := tradeSettlesUptoRow.holds Tryz.pinned (OpenSpec.upto tradeSettlesSpec)

/-- 'combinerlaw09.TradeStrings', WHERE WHAT IT READS IS OF BULK AT MOST 1048576: true; the input reads as it did. -/
def tradeStringsUptoRow : OpenClaim := { program := "ytjgckckimeldeaagreatdoor", sum := "3d25ab8a7a20e18a6ef2c460e670a886e8dfe5db14d50f47bd7997eb6790ed88", func := "combiner/combinerlaw09.TradeStrings", spec := "tradeStrings", inPlace := ["internal/abi.NoEscape", "internal/bytealg.MakeNoZero", "internal/bytealg.IndexByteString", "internal/bytealg.CountString", "internal/bytealg.IndexString"], unfollowed := true, recurses := true, named := ["combiner/trade.free", "combiner/trade.words", "internal/strconv.uint64pow10", "math/bits.deBruijn32tab", "math/bits.deBruijn64tab", "unicode/utf8.first", "unicode/utf8.acceptRanges", "internal/bytealg.MaxLen"], apart := false, laid := [("math/bits.deBruijn32tab", laid_math_bits_deBruijn32tab), ("math/bits.deBruijn64tab", laid_math_bits_deBruijn64tab), ("internal/strconv.uint64pow10", laid_internal_strconv_uint64pow10), ("unicode/utf8.acceptRanges", laid_unicode_utf8_acceptRanges), ("combiner/trade.free", laid_combiner_trade_free), ("combiner/trade.words", laid_combiner_trade_words), ("unicode/utf8.first", laid_unicode_utf8_first)], narrowed := true }
def TradeStringsUptoSaid : Prop := tradeStringsUptoRow.holds Tryz.pinned (OpenSpec.upto tradeStringsSpec)

/-- 'combinerlaw09.TradeOnce', WHERE WHAT IT READS IS OF BULK AT MOST 1048576: true; the input reads as it did. -/
def tradeOnceUptoRow : OpenClaim := { program := "ytjgckckimeldeaagreatdoor", sum := "3d25ab8a7a20e18a6ef2c460e670a886e8dfe5db14d50f47bd7997eb6790ed88", func := "combiner/combinerlaw09.TradeOnce", spec := "tradeOnce", inPlace := ["internal/abi.NoEscape", "internal/bytealg.MakeNoZero", "internal/bytealg.IndexByteString", "internal/bytealg.CountString", "internal/bytealg.IndexString"], unfollowed := true, recurses := true, named := ["combiner/trade.free", "combiner/trade.words", "internal/strconv.uint64pow10", "math/bits.deBruijn32tab", "math/bits.deBruijn64tab", "unicode/utf8.first", "unicode/utf8.acceptRanges", "internal/bytealg.MaxLen"], apart := false, laid := [("math/bits.deBruijn32tab", laid_math_bits_deBruijn32tab), ("math/bits.deBruijn64tab", laid_math_bits_deBruijn64tab), ("internal/strconv.uint64pow10", laid_internal_strconv_uint64pow10), ("unicode/utf8.acceptRanges", laid_unicode_utf8_acceptRanges), ("combiner/trade.free", laid_combiner_trade_free), ("combiner/trade.words", laid_combiner_trade_words), ("unicode/utf8.first", laid_unicode_utf8_first)], narrowed := true }
def TradeOnceUptoSaid : Prop := tradeOnceUptoRow.holds Tryz.pinned (OpenSpec.upto tradeOnceSpec)

/-- 'combinerlaw09.TradeBest', WHERE WHAT IT READS IS OF BULK AT MOST 1048576: true; the input reads as it did. -/
def tradeBestUptoRow : OpenClaim := { program := "ytjgckckimeldeaagreatdoor", sum := "3d25ab8a7a20e18a6ef2c460e670a886e8dfe5db14d50f47bd7997eb6790ed88", func := "combiner/combinerlaw09.TradeBest", spec := "tradeBest", inPlace := ["internal/abi.NoEscape", "internal/bytealg.MakeNoZero", "internal/bytealg.IndexByteString", "internal/bytealg.CountString", "internal/bytealg.IndexString"], unfollowed := true, recurses := true, named := ["combiner/trade.free", "combiner/trade.words", "internal/strconv.uint64pow10", "math/bits.deBruijn32tab", "math/bits.deBruijn64tab", "unicode/utf8.first", "unicode/utf8.acceptRanges", "internal/bytealg.MaxLen"], apart := false, laid := [("math/bits.deBruijn32tab", laid_math_bits_deBruijn32tab), ("math/bits.deBruijn64tab", laid_math_bits_deBruijn64tab), ("internal/strconv.uint64pow10", laid_internal_strconv_uint64pow10), ("unicode/utf8.acceptRanges", laid_unicode_utf8_acceptRanges), ("combiner/trade.free", laid_combiner_trade_free), ("combiner/trade.words", laid_combiner_trade_words), ("unicode/utf8.first", laid_unicode_utf8_first)], narrowed := true }
def TradeBestUptoSaid : Prop := tradeBestUptoRow.holds Tryz.pinned (OpenSpec.upto tradeBestSpec)

/-- 'combinerlaw09.TradePays', WHERE WHAT IT READS IS OF BULK AT MOST 1048576: true; the input reads as it did. -/
def tradePaysUptoRow : OpenClaim := { program := "ytjgckckimeldeaagreatdoor", sum := "3d25ab8a7a20e18a6ef2c460e670a886e8dfe5db14d50f47bd7997eb6790ed88", func := "combiner/combinerlaw09.TradePays", spec := "tradePays", inPlace := ["internal/abi.NoEscape", "internal/bytealg.MakeNoZero", "internal/bytealg.IndexByteString", "internal/bytealg.CountString", "internal/bytealg.IndexString"], unfollowed := true, recurses := true, named := ["combiner/trade.free", "combiner/trade.words", "internal/strconv.uint64pow10", "math/bits.deBruijn32tab", "math/bits.deBruijn64tab", "unicode/utf8.first", "unicode/utf8.acceptRanges", "internal/bytealg.MaxLen"], apart := false, laid := [("math/bits.deBruijn32tab", laid_math_bits_deBruijn32tab), ("math/bits.deBruijn64tab", laid_math_bits_deBruijn64tab), ("internal/strconv.uint64pow10", laid_internal_strconv_uint64pow10), ("unicode/utf8.acceptRanges", laid_unicode_utf8_acceptRanges), ("combiner/trade.free", laid_combiner_trade_free), ("combiner/trade.words", laid_combiner_trade_words), ("unicode/utf8.first", laid_unicode_utf8_first)], narrowed := true }
def TradePaysUptoSaid : Prop := tradePaysUptoRow.holds Tryz.pinned (OpenSpec.upto tradePaysSpec)

end Rows
end Go.Proofs.YtjgckckimeldeaaGreatDoor
