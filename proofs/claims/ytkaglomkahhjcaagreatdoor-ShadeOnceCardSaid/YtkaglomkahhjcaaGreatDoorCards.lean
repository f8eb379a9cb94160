/-
  DERIVED. GIVEN WITH THE SEED: THE CARDS: each row of YtkaglomkahhjcaaGreatDoorRows.lean that lists a variable, with what it lists TIED to the program's text (the seventh form; the later family's looks); each row that meets fmt, with fmt's text TOLD by the authors' own Lean function (tested against real Go, not proved from fmt's source: count such statements apart). THE CARD IS WHAT COUNTS. Prove the row's statement (the work); the ties are given (YtkaglomkahhjcaaGreatDoorTie.lean); close each card by the builder's one call (the guide's Derived/Test/ToyasCard.lean, 'card_holds'). Laid BY PROGRAM, IN A SANDBOX (cutbox-door.mjs). By AI agents, Wed Nov 11 2026. No macro, syntax, notation, axiom, sorry.
-/
import Derived.Test.YtkaglomkahhjcaaGreatDoorRows
import GoSem.ClaimSeven
namespace Go.Proofs.YtkaglomkahhjcaaGreatDoor
namespace Rows

/-- THE TIED CARD OF 'combinerlaw03.ShadeSpots'. -/
def shadeSpotsCard : Claim7 := { stood := { row := shadeSpotsRow, standIns := [], harness := (true, "1fa7e68ef3bd70e41f37e91325f6c987f0ecd232e305c650904ff1af393afef5"), looks := false }, kinds := [], alts := [], laidByText := true, laidKinds := [.data, .data, .data, .data, .funcs, .pinned], laidTests := true, laidLooks := .later }
def ShadeSpotsCardSaid : Prop := Claim7.holds Tryz.pinned (.plain (OpenSpec.ofChange shadeSpotsSpec)) shadeSpotsCard

/-- THE TIED CARD OF 'combinerlaw03.ShadeCells'. -/
def shadeCellsCard : Claim7 := { stood := { row := shadeCellsRow, standIns := [], harness := (true, "1fa7e68ef3bd70e41f37e91325f6c987f0ecd232e305c650904ff1af393afef5"), looks := false }, kinds := [], alts := [], laidByText := true, laidKinds := [.data, .data, .data, .data, .funcs, .pinned], laidTests := true, laidLooks := .later }
def ShadeCellsCardSaid : Prop := Claim7.holds Tryz.pinned (.plain (OpenSpec.ofChange shadeCellsSpec)) shadeCellsCard

/-- THE TIED CARD OF 'combinerlaw03.ShadeOutlines'. -/
def shadeOutlinesCard : Claim7 := { stood := { row := shadeOutlinesRow, standIns := [], harness := (true, "1fa7e68ef3bd70e41f37e91325f6c987f0ecd232e305c650904ff1af393afef5"), looks := false }, kinds := [], alts := [], laidByText := true, laidKinds := [.data, .data, .data, .data, .funcs, .pinned], laidTests := true, laidLooks := .later }
def ShadeOutlinesCardSaid : Prop := Claim7.holds Tryz.pinned (.plain (OpenSpec.ofChange shadeOutlinesSpec)) shadeOutlinesCard

/-- THE TIED CARD OF 'combinerlaw03.ShadeTilts'. -/
def shadeTiltsCard : Claim7 := { stood := { row := shadeTiltsRow, standIns := [], harness := (true, "1fa7e68ef3bd70e41f37e91325f6c987f0ecd232e305c650904ff1af393afef5"), looks := false }, kinds := [], alts := [], laidByText := true, laidKinds := [.data, .data, .data, .data, .funcs, .pinned], laidTests := true, laidLooks := .later }
def ShadeTiltsCardSaid : Prop := Claim7.holds Tryz.pinned (.plain (OpenSpec.ofChange shadeTiltsSpec)) shadeTiltsCard

/-- THE TIED CARD OF 'combinerlaw03.ShadeRules'. -/
def shadeRulesCard : Claim7 := { stood := { row := shadeRulesRow, standIns := [], harness := (true, "1fa7e68ef3bd70e41f37e91325f6c987f0ecd232e305c650904ff1af393afef5"), looks := false }, kinds := [], alts := [], laidByText := true, laidKinds := [.data, .data, .data, .data, .funcs, .pinned], laidTests := true, laidLooks := .later }
def ShadeRulesCardSaid : Prop := Claim7.holds Tryz.pinned (.plain (OpenSpec.ofChange shadeRulesSpec)) shadeRulesCard

/-- THE TIED CARD OF 'combinerlaw03.ShadeStrings'. -/
def shadeStringsCard : Claim7 := { stood := { row := shadeStringsRow, standIns := [], harness := (true, "1fa7e68ef3bd70e41f37e91325f6c987f0ecd232e305c650904ff1af393afef5"), looks := false }, kinds := [], alts := [], laidByText := true, laidKinds := [.data, .data, .data, .data, .funcs, .pinned], laidTests := true, laidLooks := .later }
def ShadeStringsCardSaid : Prop := Claim7.holds Tryz.pinned (.plain (OpenSpec.ofChange shadeStringsSpec)) shadeStringsCard

/-- THE TIED CARD OF 'combinerlaw03.ShadeOnce'. -/
def shadeOnceCard : Claim7 := { stood := { row := shadeOnceRow, standIns := [], harness := (true, "1fa7e68ef3bd70e41f37e91325f6c987f0ecd232e305c650904ff1af393afef5"), looks := false }, kinds := [], alts := [], laidByText := true, laidKinds := [.data, .data, .data, .data, .funcs, .pinned], laidTests := true, laidLooks := .later }
def ShadeOnceCardSaid : Prop := Claim7.holds Tryz.pinned (.plain (OpenSpec.ofChange shadeOnceSpec)) shadeOnceCard

/-- THE TIED CARD OF 'combinerlaw03.ShadeSame'. -/
def shadeSameCard : Claim7 := { stood := { row := shadeSameRow, standIns := [], harness := (true, "1fa7e68ef3bd70e41f37e91325f6c987f0ecd232e305c650904ff1af393afef5"), looks := false }, kinds := [], alts := [], laidByText := true, laidKinds := [.data, .data, .data, .data, .funcs, .pinned], laidTests := true, laidLooks := .later }
def ShadeSameCardSaid : Prop := Claim7.holds Tryz.pinned (.plain (OpenSpec.ofChange shadeSameSpec)) shadeSameCard

/-- THE TIED CARD OF 'combinerlaw03.ShadeTracked'. -/
def shadeTrackedCard : Claim7 := { stood := { row := shadeTrackedRow, standIns := [], harness := (true, "1fa7e68ef3bd70e41f37e91325f6c987f0ecd232e305c650904ff1af393afef5"), looks := false }, kinds := [], alts := [], laidByText := true, laidKinds := [.data, .data, .data, .data, .funcs, .pinned], laidTests := true, laidLooks := .later }
def ShadeTrackedCardSaid : Prop := Claim7.holds Tryz.pinned (.plain (OpenSpec.ofChange shadeTrackedSpec)) shadeTrackedCard

/-- THE TIED CARD OF 'combinerlaw03.ShadePrinted'. -/
def shadePrintedCard : Claim7 := { stood := { row := shadePrintedRow, standIns := [], harness := (true, "1fa7e68ef3bd70e41f37e91325f6c987f0ecd232e305c650904ff1af393afef5"), looks := false }, kinds := [], alts := [], laidByText := true, laidKinds := [.data, .data, .data, .data, .funcs, .pinned], laidTests := true, laidLooks := .later }
def ShadePrintedCardSaid : Prop := Claim7.holds Tryz.pinned (.plain (OpenSpec.ofChange shadePrintedSpec)) shadePrintedCard

/-- THE SECOND FORM's CARD OF 'combinerlaw03.ShadeSpots'. -/
def shadeSpotsUptoCard : Claim7 := { stood := { row := shadeSpotsUptoRow, standIns := [], harness := (true, "1fa7e68ef3bd70e41f37e91325f6c987f0ecd232e305c650904ff1af393afef5"), looks := false }, kinds := [], alts := [], laidByText := true, laidKinds := [.data, .data, .data, .data, .funcs, .pinned], laidTests := true, laidLooks := .later }
def ShadeSpotsUptoCardSaid : Prop := Claim7.holds Tryz.pinned (.plain (OpenSpec.upto shadeSpotsSpec)) shadeSpotsUptoCard

/-- THE SECOND FORM's CARD OF 'combinerlaw03.ShadeCells'. -/
def shadeCellsUptoCard : Claim7 := { stood := { row := shadeCellsUptoRow, standIns := [], harness := (true, "1fa7e68ef3bd70e41f37e91325f6c987f0ecd232e305c650904ff1af393afef5"), looks := false }, kinds := [], alts := [], laidByText := true, laidKinds := [.data, .data, .data, .data, .funcs, .pinned], laidTests := true, laidLooks := .later }
def ShadeCellsUptoCardSaid : Prop := Claim7.holds Tryz.pinned (.plain (OpenSpec.upto shadeCellsSpec)) shadeCellsUptoCard

/-- THE SECOND FORM's CARD OF 'combinerlaw03.ShadeOutlines'. -/
def shadeOutlinesUptoCard : Claim7 := { stood := { row := shadeOutlinesUptoRow, standIns := [], harness := (true, "1fa7e68ef3bd70e41f37e91325f6c987f0ecd232e305c650904ff1af393afef5"), looks := false }, kinds := [], alts := [], laidByText := true, laidKinds := [.data, .data, .data, .data, .funcs, .pinned], laidTests := true, laidLooks := .later }
def ShadeOutlinesUptoCardSaid : Prop := Claim7.holds Tryz.pinned (.plain (OpenSpec.upto shadeOutlinesSpec)) shadeOutlinesUptoCard

/-- THE SECOND FORM's CARD OF 'combinerlaw03.ShadeTilts'. -/
def shadeTiltsUptoCard : Claim7 := { stood := { row := shadeTiltsUptoRow, standIns := [], harness := (true, "1fa7e68ef3bd70e41f37e91325f6c987f0ecd232e305c650904ff1af393afef5"), looks := false }, kinds := [], alts := [], laidByText := true, laidKinds := [.data, .data, .data, .data, .funcs, .pinned], laidTests := true, laidLooks := .later }
def ShadeTiltsUptoCardSaid : Prop := Claim7.holds Tryz.pinned (.plain (OpenSpec.upto shadeTiltsSpec)) shadeTiltsUptoCard

/-- THE SECOND FORM's CARD OF 'combinerlaw03.ShadeRules'. -/
def shadeRulesUptoCard : Claim7 := { stood := { row := shadeRulesUptoRow, standIns := [], harness := (true, "1fa7e68ef3bd70e41f37e91325f6c987f0ecd232e305c650904ff1af393afef5"), looks := false }, kinds := [], alts := [], laidByText := true, laidKinds := [.data, .data, .data, .data, .funcs, .pinned], laidTests := true, laidLooks := .later }
def ShadeRulesUptoCardSaid : Prop := Claim7.holds Tryz.pinned (.plain (OpenSpec.upto shadeRulesSpec)) shadeRulesUptoCard

/-- THE SECOND FORM's CARD OF 'combinerlaw03.ShadeStrings'. -/
def shadeStringsUptoCard : Claim7 := { stood := { row := shadeStringsUptoRow, standIns := [], harness := (true, "1fa7e68ef3bd70e41f37e91325f6c987f0ecd232e305c650904ff1af393afef5"), looks := false }, kinds := [], alts := [], laidByText := true, laidKinds := [.data, .data, .data, .data, .funcs, .pinned], laidTests := true, laidLooks := .later }
def ShadeStringsUptoCardSaid : Prop := Claim7.holds Tryz.pinned (.plain (OpenSpec.upto shadeStringsSpec)) shadeStringsUptoCard

/-- THE SECOND FORM's CARD OF 'combinerlaw03.ShadeOnce'. -/
def shadeOnceUptoCard : Claim7 := { stood := { row := shadeOnceUptoRow, standIns := [], harness := (true, "1fa7e68ef3bd70e41f37e91325f6c987f0ecd232e305c650904ff1af393afef5"), looks := false }, kinds := [], alts := [], laidByText := true, laidKinds := [.data, .data, .data, .data, .funcs, .pinned], laidTests := true, laidLooks := .later }
def ShadeOnceUptoCardSaid : Prop := Claim7.holds Tryz.pinned (.plain (OpenSpec.upto shadeOnceSpec)) shadeOnceUptoCard

/-- THE SECOND FORM's CARD OF 'combinerlaw03.ShadeSame'. -/
def shadeSameUptoCard : Claim7 := { stood := { row := shadeSameUptoRow, standIns := [], harness := (true, "1fa7e68ef3bd70e41f37e91325f6c987f0ecd232e305c650904ff1af393afef5"), looks := false }, kinds := [], alts := [], laidByText := true, laidKinds := [.data, .data, .data, .data, .funcs, .pinned], laidTests := true, laidLooks := .later }
def ShadeSameUptoCardSaid : Prop := Claim7.holds Tryz.pinned (.plain (OpenSpec.upto shadeSameSpec)) shadeSameUptoCard

/-- THE SECOND FORM's CARD OF 'combinerlaw03.ShadeTracked'. -/
def shadeTrackedUptoCard : Claim7 := { stood := { row := shadeTrackedUptoRow, standIns := [], harness := (true, "1fa7e68ef3bd70e41f37e91325f6c987f0ecd232e305c650904ff1af393afef5"), looks := false }, kinds := [], alts := [], laidByText := true, laidKinds := [.data, .data, .data, .data, .funcs, .pinned], laidTests := true, laidLooks := .later }
def ShadeTrackedUptoCardSaid : Prop := Claim7.holds Tryz.pinned (.plain (OpenSpec.upto shadeTrackedSpec)) shadeTrackedUptoCard

/-- THE SECOND FORM's CARD OF 'combinerlaw03.ShadePrinted'. -/
def shadePrintedUptoCard : Claim7 := { stood := { row := shadePrintedUptoRow, standIns := [], harness := (true, "1fa7e68ef3bd70e41f37e91325f6c987f0ecd232e305c650904ff1af393afef5"), looks := false }, kinds := [], alts := [], laidByText := true, laidKinds := [.data, .data, .data, .data, .funcs, .pinned], laidTests := true, laidLooks := .later }
def ShadePrintedUptoCardSaid : Prop := Claim7.holds Tryz.pinned (.plain (OpenSpec.upto shadePrintedSpec)) shadePrintedUptoCard
end Rows
end Go.Proofs.YtkaglomkahhjcaaGreatDoor
