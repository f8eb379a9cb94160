/-
  DERIVED. GIVEN WITH THE SEED: THE CARDS: each row of YtjgckckimeldeaaGreatDoorRows.lean that lists a variable, with what it lists TIED to the program's text (the seventh form; the later family's looks); each row that meets fmt, with fmt's text TOLD by the authors' own Lean function (tested against real Go, not proved from fmt's source: count such statements apart). THE CARD IS WHAT COUNTS. Prove the row's statement (the work); the ties are given (YtjgckckimeldeaaGreatDoorTie.lean); close each card by the builder's one call (the guide's Derived/Test/ToyasCard.lean, 'card_holds'). Laid BY PROGRAM, IN A SANDBOX (cutbox-door.mjs). By AI agents, Wed Nov 11 2026. No macro, syntax, notation, axiom, sorry.
-/
import Derived.Test.YtjgckckimeldeaaGreatDoorRows
import GoSem.ClaimSeven
namespace Go.Proofs.YtjgckckimeldeaaGreatDoor
namespace Rows

/-- THE TIED CARD OF 'combinerlaw09.TradeOffers'. -/
def tradeOffersCard : Claim7 := { stood := { row := tradeOffersRow, standIns := [], harness := (true, "fceb81c4249c15d9b24c4bf4a00f0fc4ceb49ad1d5e700334fee1a8bec1edf03"), looks := false }, kinds := [], alts := [], laidByText := true, laidKinds := [.data, .data, .data, .data, .data, .data, .pinned], laidTests := true, laidLooks := .later }
def TradeOffersCardSaid : Prop := Claim7.holds Tryz.pinned (.plain (OpenSpec.ofChange tradeOffersSpec)) tradeOffersCard

/-- THE TIED CARD OF 'combinerlaw09.TradeAllots'. -/
def tradeAllotsCard : Claim7 := { stood := { row := tradeAllotsRow, standIns := [], harness := (true, "fceb81c4249c15d9b24c4bf4a00f0fc4ceb49ad1d5e700334fee1a8bec1edf03"), looks := false }, kinds := [], alts := [], laidByText := true, laidKinds := [.data, .data, .data, .data, .data, .data, .pinned], laidTests := true, laidLooks := .later }
def TradeAllotsCardSaid : Prop := Claim7.holds Tryz.pinned (.plain (OpenSpec.ofChange tradeAllotsSpec)) tradeAllotsCard

/-- THE TIED CARD OF 'combinerlaw09.TradePlans'. -/
def tradePlansCard : Claim7 := { stood := { row := tradePlansRow, standIns := [], harness := (true, "fceb81c4249c15d9b24c4bf4a00f0fc4ceb49ad1d5e700334fee1a8bec1edf03"), looks := false }, kinds := [], alts := [], laidByText := true, laidKinds := [.data, .data, .data, .data, .data, .data, .pinned], laidTests := true, laidLooks := .later }
def TradePlansCardSaid : Prop := Claim7.holds Tryz.pinned (.plain (OpenSpec.ofChange tradePlansSpec)) tradePlansCard

/-- THE TIED CARD OF 'combinerlaw09.TradeTables'. -/
def tradeTablesCard : Claim7 := { stood := { row := tradeTablesRow, standIns := [], harness := (true, "fceb81c4249c15d9b24c4bf4a00f0fc4ceb49ad1d5e700334fee1a8bec1edf03"), looks := false }, kinds := [], alts := [], laidByText := true, laidKinds := [.data, .data, .data, .data, .data, .data, .pinned], laidTests := true, laidLooks := .later }
def TradeTablesCardSaid : Prop := Claim7.holds Tryz.pinned (.plain (OpenSpec.ofChange tradeTablesSpec)) tradeTablesCard

/-- THE TIED CARD OF 'combinerlaw09.TradeSettles'. -/
def tradeSettlesCard : Claim7 := { stood := { row := tradeSettlesRow, standIns := [], harness := (true, "fceb81c4249c15d9b24c4bf4a00f0fc4ceb49ad1d5e700334fee1a8bec1edf03"), looks := false }, kinds := [], alts := [], laidByText := true, laidKinds := [.data, .data, .data, .data, .data, .data, .pinned], laidTests := true, laidLooks := .later }
def TradeSettlesCardSaid : Prop := Claim7.holds Tryz.pinned (.plain (OpenSpec.ofChange tradeSettlesSpec)) tradeSettlesCard

/-- THE TIED CARD OF 'combinerlaw09.TradeStrings'. -/
def tradeStringsCard : Claim7 := { stood := { row := tradeStringsRow, standIns := [], harness := (true, "fceb81c4249c15d9b24c4bf4a00f0fc4ceb49ad1d5e700334fee1a8bec1edf03"), looks := false }, kinds := [], alts := [], laidByText := true, laidKinds := [.data, .data, .data, .data, .data, .data, .pinned], laidTests := true, laidLooks := .later }
def TradeStringsCardSaid : Prop := Claim7.holds Tryz.pinned (.plain (OpenSpec.ofChange tradeStringsSpec)) tradeStringsCard

/-- THE TIED CARD OF 'combinerlaw09.TradeOnce'. -/
def tradeOnceCard : Claim7 := { stood := { row := tradeOnceRow, standIns := [], harness := (true, "fceb81c4249c15d9b24c4bf4a00f0fc4ceb49ad1d5e700334fee1a8bec1edf03"), looks := false }, kinds := [], alts := [], laidByText := true, laidKinds := [.data, .data, .data, .data, .data, .data, .pinned], laidTests := true, laidLooks := .later }
def TradeOnceCardSaid : Prop := Claim7.holds Tryz.pinned (.plain (OpenSpec.ofChange tradeOnceSpec)) tradeOnceCard

/-- THE TIED CARD OF 'combinerlaw09.TradeBest'. -/
def tradeBestCard : Claim7 := { stood := { row := tradeBestRow, standIns := [], harness := (true, "fceb81c4249c15d9b24c4bf4a00f0fc4ceb49ad1d5e700334fee1a8bec1edf03"), looks := false }, kinds := [], alts := [], laidByText := true, laidKinds := [.data, .data, .data, .data, .data, .data, .pinned], laidTests := true, laidLooks := .later }
def TradeBestCardSaid : Prop := Claim7.holds Tryz.pinned (.plain (OpenSpec.ofChange tradeBestSpec)) tradeBestCard

/-- THE TIED CARD OF 'combinerlaw09.TradePays'. -/
def tradePaysCard : Claim7 := { stood := { row := tradePaysRow, standIns := [], harness := (true, "fceb81c4249c15d9b24c4bf4a00f0fc4ceb49ad1d5e700334fee1a8bec1edf03"), looks := false }, kinds := [], alts := [], laidByText := true, laidKinds := [.data, .data, .data, .data, .data, .data, .pinned], laidTests := true, laidLooks := .later }
def TradePaysCardSaid : Prop := Claim7.holds Tryz.pinned (.plain (OpenSpec.ofChange tradePaysSpec)) tradePaysCard

/-- THE SECOND FORM's CARD OF 'combinerlaw09.TradeOffers'. -/
def tradeOffersUptoCard : Claim7 := { stood := { row := tradeOffersUptoRow, standIns := [], harness := (true, "fceb81c4249c15d9b24c4bf4a00f0fc4ceb49ad1d5e700334fee1a8bec1edf03"), looks := false }, kinds := [], alts := [], laidByText := true, laidKinds := [.data, .data, .data, .data, .data, .data, .pinned], laidTests := true, laidLooks := .later }
def TradeOffersUptoCardSaid : Prop := Claim7.holds Tryz.pinned (.plain (OpenSpec.upto tradeOffersSpec)) tradeOffersUptoCard

/-- THE SECOND FORM's CARD OF 'combinerlaw09.TradeAllots'. -/
def tradeAllotsUptoCard : Claim7 := { stood := { row := tradeAllotsUptoRow, standIns := [], harness := (true, "fceb81c4249c15d9b24c4bf4a00f0fc4ceb49ad1d5e700334fee1a8bec1edf03"), looks := false }, kinds := [], alts := [], laidByText := true, laidKinds := [.data, .data, .data, .data, .data, .data, .pinned], laidTests := true, laidLooks := .later }
def TradeAllotsUptoCardSaid : Prop := Claim7.holds Tryz.pinned (.plain (OpenSpec.upto tradeAllotsSpec)) tradeAllotsUptoCard

/-- THE SECOND FORM's CARD OF 'combinerlaw09.TradePlans'. -/
def tradePlansUptoCard : Claim7 := { stood := { row := tradePlansUptoRow, standIns := [], harness := (true, "fceb81c4249c15d9b24c4bf4a00f0fc4ceb49ad1d5e700334fee1a8bec1edf03"), looks := false }, kinds := [], alts := [], laidByText := true, laidKinds := [.data, .data, .data, .data, .data, .data, .pinned], laidTests := true, laidLooks := .later }
def TradePlansUptoCardSaid : Prop := Claim7.holds Tryz.pinned (.plain (OpenSpec.upto tradePlansSpec)) tradePlansUptoCard

/-- THE SECOND FORM's CARD OF 'combinerlaw09.TradeTables'. -/
def tradeTablesUptoCard : Claim7 := { stood := { row := tradeTablesUptoRow, standIns := [], harness := (true, "fceb81c4249c15d9b24c4bf4a00f0fc4ceb49ad1d5e700334fee1a8bec1edf03"), looks := false }, kinds := [], alts := [], laidByText := true, laidKinds := [.data, .data, .data, .data, .data, .data, .pinned], laidTests := true, laidLooks := .later }
def TradeTablesUptoCardSaid : Prop := Claim7.holds Tryz.pinned (.plain (OpenSpec.upto tradeTablesSpec)) tradeTablesUptoCard

/-- THE SECOND FORM's CARD OF 'combinerlaw09.TradeSettles'. -/
def tradeSettlesUptoCard : Claim7 := { stood := { row := tradeSettlesUptoRow, standIns := [], harness := (true, "fceb81c4249c15d9b24c4bf4a00f0fc4ceb49ad1d5e700334fee1a8bec1edf03"), looks := false }, kinds := [], alts := [], laidByText := true, laidKinds := [.data, .data, .data, .data, .data, .data, .pinned], laidTests := true, laidLooks := .later }
def TradeSettlesUptoCardSaid : Prop := Claim7.holds Tryz.pinned (.plain (OpenSpec.upto tradeSettlesSpec)) tradeSettlesUptoCard

/-- THE SECOND FORM's CARD OF 'combinerlaw09.TradeStrings'. -/
def tradeStringsUptoCard : Claim7 := { stood := { row := tradeStringsUptoRow, standIns := [], harness := (true, "fceb81c4249c15d9b24c4bf4a00f0fc4ceb49ad1d5e700334fee1a8bec1edf03"), looks := false }, kinds := [], alts := [], laidByText := true, laidKinds := [.data, .data, .data, .data, .data, .data, .pinned], laidTests := true, laidLooks := .later }
def TradeStringsUptoCardSaid : Prop := Claim7.holds Tryz.pinned (.plain (OpenSpec.upto tradeStringsSpec)) tradeStringsUptoCard

/-- THE SECOND FORM's CARD OF 'combinerlaw09.TradeOnce'. -/
def tradeOnceUptoCard : Claim7 := { stood := { row := tradeOnceUptoRow, standIns := [], harness := (true, "fceb81c4249c15d9b24c4bf4a00f0fc4ceb49ad1d5e700334fee1a8bec1edf03"), looks := false }, kinds := [], alts := [], laidByText := true, laidKinds := [.data, .data, .data, .data, .data, .data, .pinned], laidTests := true, laidLooks := .later }
def TradeOnceUptoCardSaid : Prop := Claim7.holds Tryz.pinned (.plain (OpenSpec.upto tradeOnceSpec)) tradeOnceUptoCard

/-- THE SECOND FORM's CARD OF 'combinerlaw09.TradeBest'. -/
def tradeBestUptoCard : Claim7 := { stood := { row := tradeBestUptoRow, standIns := [], harness := (true, "fceb81c4249c15d9b24c4bf4a00f0fc4ceb49ad1d5e700334fee1a8bec1edf03"), looks := false }, kinds := [], alts := [], laidByText := true, laidKinds := [.data, .data, .data, .data, .data, .data, .pinned], laidTests := true, laidLooks := .later }
def TradeBestUptoCardSaid : Prop := Claim7.holds Tryz.pinned (.plain (OpenSpec.upto tradeBestSpec)) tradeBestUptoCard

/-- THE SECOND FORM's CARD OF 'combinerlaw09.TradePays'. -/
def tradePaysUptoCard : Claim7 := { stood := { row := tradePaysUptoRow, standIns := [], harness := (true, "fceb81c4249c15d9b24c4bf4a00f0fc4ceb49ad1d5e700334fee1a8bec1edf03"), looks := false }, kinds := [], alts := [], laidByText := true, laidKinds := [.data, .data, .data, .data, .data, .data, .pinned], laidTests := true, laidLooks := .later }
def TradePaysUptoCardSaid : Prop := Claim7.holds Tryz.pinned (.plain (OpenSpec.upto tradePaysSpec)) tradePaysUptoCard
end Rows
end Go.Proofs.YtjgckckimeldeaaGreatDoor
