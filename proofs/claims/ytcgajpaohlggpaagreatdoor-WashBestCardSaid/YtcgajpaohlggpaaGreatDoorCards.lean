/-
  DERIVED. GIVEN WITH THE SEED: THE CARDS: each row of YtcgajpaohlggpaaGreatDoorRows.lean that lists a variable, with what it lists TIED to the program's text (the seventh form; the later family's looks); each row that meets fmt, with fmt's text TOLD by the authors' own Lean function (tested against real Go, not proved from fmt's source: count such statements apart). THE CARD IS WHAT COUNTS. Prove the row's statement (the work); the ties are given (YtcgajpaohlggpaaGreatDoorTie.lean); close each card by the builder's one call (the guide's Derived/Test/ToyasCard.lean, 'card_holds'). Laid BY PROGRAM, IN A SANDBOX (cutbox-door.mjs). By AI agents, Wed Nov 11 2026. No macro, syntax, notation, axiom, sorry.
-/
import Derived.Test.YtcgajpaohlggpaaGreatDoorRows
import GoSem.ClaimSeven
namespace Go.Proofs.YtcgajpaohlggpaaGreatDoor
namespace Rows

/-- THE TIED CARD OF 'combinerlaw08.WashSeasons'. -/
def washSeasonsCard : Claim7 := { stood := { row := washSeasonsRow, standIns := [], harness := (true, "6c622c8973f8c7e9644cdca32fe90d7679049be556239442ef3aa19a59c71b76"), looks := false }, kinds := [], alts := [], laidByText := true, laidKinds := [.data, .data, .data, .data, .funcs, .pinned], laidTests := true, laidLooks := .later }
def WashSeasonsCardSaid : Prop := Claim7.holds Tryz.pinned (.plain (OpenSpec.ofChange washSeasonsSpec)) washSeasonsCard

/-- THE TIED CARD OF 'combinerlaw08.WashGains'. -/
def washGainsCard : Claim7 := { stood := { row := washGainsRow, standIns := [], harness := (true, "6c622c8973f8c7e9644cdca32fe90d7679049be556239442ef3aa19a59c71b76"), looks := false }, kinds := [], alts := [], laidByText := true, laidKinds := [.data, .data, .data, .data, .funcs, .pinned], laidTests := true, laidLooks := .later }
def WashGainsCardSaid : Prop := Claim7.holds Tryz.pinned (.plain (OpenSpec.ofChange washGainsSpec)) washGainsCard

/-- THE TIED CARD OF 'combinerlaw08.WashPlans'. -/
def washPlansCard : Claim7 := { stood := { row := washPlansRow, standIns := [], harness := (true, "6c622c8973f8c7e9644cdca32fe90d7679049be556239442ef3aa19a59c71b76"), looks := false }, kinds := [], alts := [], laidByText := true, laidKinds := [.data, .data, .data, .data, .funcs, .pinned], laidTests := true, laidLooks := .later }
def WashPlansCardSaid : Prop := Claim7.holds Tryz.pinned (.plain (OpenSpec.ofChange washPlansSpec)) washPlansCard

/-- THE TIED CARD OF 'combinerlaw08.WashTables'. -/
def washTablesCard : Claim7 := { stood := { row := washTablesRow, standIns := [], harness := (true, "6c622c8973f8c7e9644cdca32fe90d7679049be556239442ef3aa19a59c71b76"), looks := false }, kinds := [], alts := [], laidByText := true, laidKinds := [.data, .data, .data, .data, .funcs, .pinned], laidTests := true, laidLooks := .later }
def WashTablesCardSaid : Prop := Claim7.holds Tryz.pinned (.plain (OpenSpec.ofChange washTablesSpec)) washTablesCard

/-- THE TIED CARD OF 'combinerlaw08.WashWays'. -/
def washWaysCard : Claim7 := { stood := { row := washWaysRow, standIns := [], harness := (true, "6c622c8973f8c7e9644cdca32fe90d7679049be556239442ef3aa19a59c71b76"), looks := false }, kinds := [], alts := [], laidByText := true, laidKinds := [.data, .data, .data, .data, .funcs, .pinned], laidTests := true, laidLooks := .later }
def WashWaysCardSaid : Prop := Claim7.holds Tryz.pinned (.plain (OpenSpec.ofChange washWaysSpec)) washWaysCard

/-- THE TIED CARD OF 'combinerlaw08.WashRounds'. -/
def washRoundsCard : Claim7 := { stood := { row := washRoundsRow, standIns := [], harness := (true, "6c622c8973f8c7e9644cdca32fe90d7679049be556239442ef3aa19a59c71b76"), looks := false }, kinds := [], alts := [], laidByText := true, laidKinds := [.data, .data, .data, .data, .funcs, .pinned], laidTests := true, laidLooks := .later }
def WashRoundsCardSaid : Prop := Claim7.holds Tryz.pinned (.plain (OpenSpec.ofChange washRoundsSpec)) washRoundsCard

/-- THE TIED CARD OF 'combinerlaw08.WashParts'. -/
def washPartsCard : Claim7 := { stood := { row := washPartsRow, standIns := [], harness := (true, "6c622c8973f8c7e9644cdca32fe90d7679049be556239442ef3aa19a59c71b76"), looks := false }, kinds := [], alts := [], laidByText := true, laidKinds := [.data, .data, .data, .data, .funcs, .pinned], laidTests := true, laidLooks := .later }
def WashPartsCardSaid : Prop := Claim7.holds Tryz.pinned (.plain (OpenSpec.ofChange washPartsSpec)) washPartsCard

/-- THE TIED CARD OF 'combinerlaw08.WashStrings'. -/
def washStringsCard : Claim7 := { stood := { row := washStringsRow, standIns := [], harness := (true, "6c622c8973f8c7e9644cdca32fe90d7679049be556239442ef3aa19a59c71b76"), looks := false }, kinds := [], alts := [], laidByText := true, laidKinds := [.data, .data, .data, .data, .funcs, .pinned], laidTests := true, laidLooks := .later }
def WashStringsCardSaid : Prop := Claim7.holds Tryz.pinned (.plain (OpenSpec.ofChange washStringsSpec)) washStringsCard

/-- THE TIED CARD OF 'combinerlaw08.WashSoils'. -/
def washSoilsCard : Claim7 := { stood := { row := washSoilsRow, standIns := [], harness := (true, "6c622c8973f8c7e9644cdca32fe90d7679049be556239442ef3aa19a59c71b76"), looks := false }, kinds := [], alts := [], laidByText := true, laidKinds := [.data, .data, .data, .data, .funcs, .pinned], laidTests := true, laidLooks := .later }
def WashSoilsCardSaid : Prop := Claim7.holds Tryz.pinned (.plain (OpenSpec.ofChange washSoilsSpec)) washSoilsCard

/-- THE TIED CARD OF 'combinerlaw08.WashBest'. -/
def washBestCard : Claim7 := { stood := { row := washBestRow, standIns := [], harness := (true, "6c622c8973f8c7e9644cdca32fe90d7679049be556239442ef3aa19a59c71b76"), looks := false }, kinds := [], alts := [], laidByText := true, laidKinds := [.data, .data, .data, .data, .funcs, .pinned], laidTests := true, laidLooks := .later }
def WashBestCardSaid : Prop := Claim7.holds Tryz.pinned (.plain (OpenSpec.ofChange washBestSpec)) washBestCard

/-- THE TIED CARD OF 'combinerlaw08.WashCrews'. -/
def washCrewsCard : Claim7 := { stood := { row := washCrewsRow, standIns := [], harness := (true, "6c622c8973f8c7e9644cdca32fe90d7679049be556239442ef3aa19a59c71b76"), looks := false }, kinds := [], alts := [], laidByText := true, laidKinds := [.data, .data, .data, .data, .funcs, .pinned], laidTests := true, laidLooks := .later }
def WashCrewsCardSaid : Prop := Claim7.holds Tryz.pinned (.plain (OpenSpec.ofChange washCrewsSpec)) washCrewsCard

/-- THE TIED CARD OF 'combinerlaw08.WashBack'. -/
def washBackCard : Claim7 := { stood := { row := washBackRow, standIns := [], harness := (true, "6c622c8973f8c7e9644cdca32fe90d7679049be556239442ef3aa19a59c71b76"), looks := false }, kinds := [], alts := [], laidByText := true, laidKinds := [.data, .data, .data, .data, .funcs, .pinned], laidTests := true, laidLooks := .later }
def WashBackCardSaid : Prop := Claim7.holds Tryz.pinned (.plain (OpenSpec.ofChange washBackSpec)) washBackCard

/-- THE SECOND FORM's CARD OF 'combinerlaw08.WashSeasons'. -/
def washSeasonsUptoCard : Claim7 := { stood := { row := washSeasonsUptoRow, standIns := [], harness := (true, "6c622c8973f8c7e9644cdca32fe90d7679049be556239442ef3aa19a59c71b76"), looks := false }, kinds := [], alts := [], laidByText := true, laidKinds := [.data, .data, .data, .data, .funcs, .pinned], laidTests := true, laidLooks := .later }
def WashSeasonsUptoCardSaid : Prop := Claim7.holds Tryz.pinned (.plain (OpenSpec.upto washSeasonsSpec)) washSeasonsUptoCard

/-- THE SECOND FORM's CARD OF 'combinerlaw08.WashGains'. -/
def washGainsUptoCard : Claim7 := { stood := { row := washGainsUptoRow, standIns := [], harness := (true, "6c622c8973f8c7e9644cdca32fe90d7679049be556239442ef3aa19a59c71b76"), looks := false }, kinds := [], alts := [], laidByText := true, laidKinds := [.data, .data, .data, .data, .funcs, .pinned], laidTests := true, laidLooks := .later }
def WashGainsUptoCardSaid : Prop := Claim7.holds Tryz.pinned (.plain (OpenSpec.upto washGainsSpec)) washGainsUptoCard

/-- THE SECOND FORM's CARD OF 'combinerlaw08.WashPlans'. -/
def washPlansUptoCard : Claim7 := { stood := { row := washPlansUptoRow, standIns := [], harness := (true, "6c622c8973f8c7e9644cdca32fe90d7679049be556239442ef3aa19a59c71b76"), looks := false }, kinds := [], alts := [], laidByText := true, laidKinds := [.data, .data, .data, .data, .funcs, .pinned], laidTests := true, laidLooks := .later }
def WashPlansUptoCardSaid : Prop := Claim7.holds Tryz.pinned (.plain (OpenSpec.upto washPlansSpec)) washPlansUptoCard

/-- THE SECOND FORM's CARD OF 'combinerlaw08.WashTables'. -/
def washTablesUptoCard : Claim7 := { stood := { row := washTablesUptoRow, standIns := [], harness := (true, "6c622c8973f8c7e9644cdca32fe90d7679049be556239442ef3aa19a59c71b76"), looks := false }, kinds := [], alts := [], laidByText := true, laidKinds := [.data, .data, .data, .data, .funcs, .pinned], laidTests := true, laidLooks := .later }
def WashTablesUptoCardSaid : Prop := Claim7.holds Tryz.pinned (.plain (OpenSpec.upto washTablesSpec)) washTablesUptoCard

/-- THE SECOND FORM's CARD OF 'combinerlaw08.WashWays'. -/
def washWaysUptoCard : Claim7 := { stood := { row := washWaysUptoRow, standIns := [], harness := (true, "6c622c8973f8c7e9644cdca32fe90d7679049be556239442ef3aa19a59c71b76"), looks := false }, kinds := [], alts := [], laidByText := true, laidKinds := [.data, .data, .data, .data, .funcs, .pinned], laidTests := true, laidLooks := .later }
def WashWaysUptoCardSaid : Prop := Claim7.holds Tryz.pinned (.plain (OpenSpec.upto washWaysSpec)) washWaysUptoCard

/-- THE SECOND FORM's CARD OF 'combinerlaw08.WashRounds'. -/
def washRoundsUptoCard : Claim7 := { stood := { row := washRoundsUptoRow, standIns := [], harness := (true, "6c622c8973f8c7e9644cdca32fe90d7679049be556239442ef3aa19a59c71b76"), looks := false }, kinds := [], alts := [], laidByText := true, laidKinds := [.data, .data, .data, .data, .funcs, .pinned], laidTests := true, laidLooks := .later }
def WashRoundsUptoCardSaid : Prop := Claim7.holds Tryz.pinned (.plain (OpenSpec.upto washRoundsSpec)) washRoundsUptoCard

/-- THE SECOND FORM's CARD OF 'combinerlaw08.WashParts'. -/
def washPartsUptoCard : Claim7 := { stood := { row := washPartsUptoRow, standIns := [], harness := (true, "6c622c8973f8c7e9644cdca32fe90d7679049be556239442ef3aa19a59c71b76"), looks := false }, kinds := [], alts := [], laidByText := true, laidKinds := [.data, .data, .data, .data, .funcs, .pinned], laidTests := true, laidLooks := .later }
def WashPartsUptoCardSaid : Prop := Claim7.holds Tryz.pinned (.plain (OpenSpec.upto washPartsSpec)) washPartsUptoCard

/-- THE SECOND FORM's CARD OF 'combinerlaw08.WashStrings'. -/
def washStringsUptoCard : Claim7 := { stood := { row := washStringsUptoRow, standIns := [], harness := (true, "6c622c8973f8c7e9644cdca32fe90d7679049be556239442ef3aa19a59c71b76"), looks := false }, kinds := [], alts := [], laidByText := true, laidKinds := [.data, .data, .data, .data, .funcs, .pinned], laidTests := true, laidLooks := .later }
def WashStringsUptoCardSaid : Prop := Claim7.holds Tryz.pinned (.plain (OpenSpec.upto washStringsSpec)) washStringsUptoCard

/-- THE SECOND FORM's CARD OF 'combinerlaw08.WashSoils'. -/
def washSoilsUptoCard : Claim7 := { stood := { row := washSoilsUptoRow, standIns := [], harness := (true, "6c622c8973f8c7e9644cdca32fe90d7679049be556239442ef3aa19a59c71b76"), looks := false }, kinds := [], alts := [], laidByText := true, laidKinds := [.data, .data, .data, .data, .funcs, .pinned], laidTests := true, laidLooks := .later }
def WashSoilsUptoCardSaid : Prop := Claim7.holds Tryz.pinned (.plain (OpenSpec.upto washSoilsSpec)) washSoilsUptoCard

/-- THE SECOND FORM's CARD OF 'combinerlaw08.WashBest'. -/
def washBestUptoCard : Claim7 := { stood := { row := washBestUptoRow, standIns := [], harness := (true, "6c622c8973f8c7e9644cdca32fe90d7679049be556239442ef3aa19a59c71b76"), looks := false }, kinds := [], alts := [], laidByText := true, laidKinds := [.data, .data, .data, .data, .funcs, .pinned], laidTests := true, laidLooks := .later }
def WashBestUptoCardSaid : Prop := Claim7.holds Tryz.pinned (.plain (OpenSpec.upto washBestSpec)) washBestUptoCard

/-- THE SECOND FORM's CARD OF 'combinerlaw08.WashCrews'. -/
def washCrewsUptoCard : Claim7 := { stood := { row := washCrewsUptoRow, standIns := [], harness := (true, "6c622c8973f8c7e9644cdca32fe90d7679049be556239442ef3aa19a59c71b76"), looks := false }, kinds := [], alts := [], laidByText := true, laidKinds := [.data, .data, .data, .data, .funcs, .pinned], laidTests := true, laidLooks := .later }
def WashCrewsUptoCardSaid : Prop := Claim7.holds Tryz.pinned (.plain (OpenSpec.upto washCrewsSpec)) washCrewsUptoCard

/-- THE SECOND FORM's CARD OF 'combinerlaw08.WashBack'. -/
def washBackUptoCard : Claim7 := { stood := { row := washBackUptoRow, standIns := [], harness := (true, "6c622c8973f8c7e9644cdca32fe90d7679049be556239442ef3aa19a59c71b76"), looks := false }, kinds := [], alts := [], laidByText := true, laidKinds := [.data, .data, .data, .data, .funcs, .pinned], laidTests := true, laidLooks := .later }
def WashBackUptoCardSaid : Prop := Claim7.holds Tryz.pinned (.plain (OpenSpec.upto washBackSpec)) washBackUptoCard
end Rows
end Go.Proofs.YtcgajpaohlggpaaGreatDoor
