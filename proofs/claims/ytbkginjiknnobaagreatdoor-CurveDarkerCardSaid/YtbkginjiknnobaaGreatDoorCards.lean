/-
  DERIVED. GIVEN WITH THE SEED: THE CARDS: each row of YtbkginjiknnobaaGreatDoorRows.lean that lists a variable, with what it lists TIED to the program's text (the seventh form; the later family's looks); each row that meets fmt, with fmt's text TOLD by the authors' own Lean function (tested against real Go, not proved from fmt's source: count such statements apart). THE CARD IS WHAT COUNTS. Prove the row's statement (the work); the ties are given (YtbkginjiknnobaaGreatDoorTie.lean); close each card by the builder's one call (the guide's Derived/Test/ToyasCard.lean, 'card_holds'). Laid BY PROGRAM, IN A SANDBOX (cutbox-door.mjs). By AI agents, Wed Nov 11 2026. No macro, syntax, notation, axiom, sorry.
-/
import Derived.Test.YtbkginjiknnobaaGreatDoorRows
import GoSem.ClaimSeven
namespace Go.Proofs.YtbkginjiknnobaaGreatDoor
namespace Rows

/-- THE TIED CARD OF 'combinerlaw04.CurveCells'. -/
def curveCellsCard : Claim7 := { stood := { row := curveCellsRow, standIns := [], harness := (true, "1f3423c23bc4b4c17376b9e41b32f4dc4d258eb463ed8d8f15645aee5bdab356"), looks := false }, kinds := [], alts := [], laidByText := true, laidKinds := [.data, .data, .data, .funcsDeep], laidTests := true, laidLooks := .later }
def CurveCellsCardSaid : Prop := Claim7.holds Tryz.pinned (.plain (OpenSpec.ofChange curveCellsSpec)) curveCellsCard

/-- THE TIED CARD OF 'combinerlaw04.CurveChains'. -/
def curveChainsCard : Claim7 := { stood := { row := curveChainsRow, standIns := [], harness := (true, "1f3423c23bc4b4c17376b9e41b32f4dc4d258eb463ed8d8f15645aee5bdab356"), looks := false }, kinds := [], alts := [], laidByText := true, laidKinds := [.data, .data, .data, .funcsDeep], laidTests := true, laidLooks := .later }
def CurveChainsCardSaid : Prop := Claim7.holds Tryz.pinned (.plain (OpenSpec.ofChange curveChainsSpec)) curveChainsCard

/-- THE TIED CARD OF 'combinerlaw04.CurveFields'. -/
def curveFieldsCard : Claim7 := { stood := { row := curveFieldsRow, standIns := [], harness := (true, "1f3423c23bc4b4c17376b9e41b32f4dc4d258eb463ed8d8f15645aee5bdab356"), looks := false }, kinds := [], alts := [], laidByText := true, laidKinds := [.data, .data, .data, .funcsDeep], laidTests := true, laidLooks := .later }
def CurveFieldsCardSaid : Prop := Claim7.holds Tryz.pinned (.plain (OpenSpec.ofChange curveFieldsSpec)) curveFieldsCard

/-- THE TIED CARD OF 'combinerlaw04.CurveBounds'. -/
def curveBoundsCard : Claim7 := { stood := { row := curveBoundsRow, standIns := [], harness := (true, "1f3423c23bc4b4c17376b9e41b32f4dc4d258eb463ed8d8f15645aee5bdab356"), looks := false }, kinds := [], alts := [], laidByText := true, laidKinds := [.data, .data, .data, .funcsDeep], laidTests := true, laidLooks := .later }
def CurveBoundsCardSaid : Prop := Claim7.holds Tryz.pinned (.plain (OpenSpec.ofChange curveBoundsSpec)) curveBoundsCard

/-- THE TIED CARD OF 'combinerlaw04.CurvePeaks'. -/
def curvePeaksCard : Claim7 := { stood := { row := curvePeaksRow, standIns := [], harness := (true, "1f3423c23bc4b4c17376b9e41b32f4dc4d258eb463ed8d8f15645aee5bdab356"), looks := false }, kinds := [], alts := [], laidByText := true, laidKinds := [.data, .data, .data, .funcsDeep], laidTests := true, laidLooks := .later }
def CurvePeaksCardSaid : Prop := Claim7.holds Tryz.pinned (.plain (OpenSpec.ofChange curvePeaksSpec)) curvePeaksCard

/-- THE TIED CARD OF 'combinerlaw04.CurveHighest'. -/
def curveHighestCard : Claim7 := { stood := { row := curveHighestRow, standIns := [], harness := (true, "1f3423c23bc4b4c17376b9e41b32f4dc4d258eb463ed8d8f15645aee5bdab356"), looks := false }, kinds := [], alts := [], laidByText := true, laidKinds := [.data, .data, .data, .funcsDeep], laidTests := true, laidLooks := .later }
def CurveHighestCardSaid : Prop := Claim7.holds Tryz.pinned (.plain (OpenSpec.ofChange curveHighestSpec)) curveHighestCard

/-- THE TIED CARD OF 'combinerlaw04.CurveDarker'. -/
def curveDarkerCard : Claim7 := { stood := { row := curveDarkerRow, standIns := [], harness := (true, "1f3423c23bc4b4c17376b9e41b32f4dc4d258eb463ed8d8f15645aee5bdab356"), looks := false }, kinds := [], alts := [], laidByText := true, laidKinds := [.data, .data, .data, .funcsDeep], laidTests := true, laidLooks := .later }
def CurveDarkerCardSaid : Prop := Claim7.holds Tryz.pinned (.plain (OpenSpec.ofChange curveDarkerSpec)) curveDarkerCard

/-- THE TIED CARD OF 'combinerlaw04.CurveStrings'. -/
def curveStringsCard : Claim7 := { stood := { row := curveStringsRow, standIns := [], harness := (true, "1f3423c23bc4b4c17376b9e41b32f4dc4d258eb463ed8d8f15645aee5bdab356"), looks := false }, kinds := [], alts := [], laidByText := true, laidKinds := [.data, .data, .data, .data, .funcsDeep, .pinned], laidTests := true, laidLooks := .later }
def CurveStringsCardSaid : Prop := Claim7.holds Tryz.pinned (.plain (OpenSpec.ofChange curveStringsSpec)) curveStringsCard

/-- THE TIED CARD OF 'combinerlaw04.CurveFalls'. -/
def curveFallsCard : Claim7 := { stood := { row := curveFallsRow, standIns := [], harness := (true, "1f3423c23bc4b4c17376b9e41b32f4dc4d258eb463ed8d8f15645aee5bdab356"), looks := false }, kinds := [], alts := [], laidByText := true, laidKinds := [.data, .data, .data, .data, .funcsDeep, .pinned], laidTests := true, laidLooks := .later }
def CurveFallsCardSaid : Prop := Claim7.holds Tryz.pinned (.plain (OpenSpec.ofChange curveFallsSpec)) curveFallsCard

/-- THE SECOND FORM's CARD OF 'combinerlaw04.CurveCells'. -/
def curveCellsUptoCard : Claim7 := { stood := { row := curveCellsUptoRow, standIns := [], harness := (true, "1f3423c23bc4b4c17376b9e41b32f4dc4d258eb463ed8d8f15645aee5bdab356"), looks := false }, kinds := [], alts := [], laidByText := true, laidKinds := [.data, .data, .data, .funcsDeep], laidTests := true, laidLooks := .later }
def CurveCellsUptoCardSaid : Prop := Claim7.holds Tryz.pinned (.plain (OpenSpec.upto curveCellsSpec)) curveCellsUptoCard

/-- THE SECOND FORM's CARD OF 'combinerlaw04.CurveChains'. -/
def curveChainsUptoCard : Claim7 := { stood := { row := curveChainsUptoRow, standIns := [], harness := (true, "1f3423c23bc4b4c17376b9e41b32f4dc4d258eb463ed8d8f15645aee5bdab356"), looks := false }, kinds := [], alts := [], laidByText := true, laidKinds := [.data, .data, .data, .funcsDeep], laidTests := true, laidLooks := .later }
def CurveChainsUptoCardSaid : Prop := Claim7.holds Tryz.pinned (.plain (OpenSpec.upto curveChainsSpec)) curveChainsUptoCard

/-- THE SECOND FORM's CARD OF 'combinerlaw04.CurveFields'. -/
def curveFieldsUptoCard : Claim7 := { stood := { row := curveFieldsUptoRow, standIns := [], harness := (true, "1f3423c23bc4b4c17376b9e41b32f4dc4d258eb463ed8d8f15645aee5bdab356"), looks := false }, kinds := [], alts := [], laidByText := true, laidKinds := [.data, .data, .data, .funcsDeep], laidTests := true, laidLooks := .later }
def CurveFieldsUptoCardSaid : Prop := Claim7.holds Tryz.pinned (.plain (OpenSpec.upto curveFieldsSpec)) curveFieldsUptoCard

/-- THE SECOND FORM's CARD OF 'combinerlaw04.CurveBounds'. -/
def curveBoundsUptoCard : Claim7 := { stood := { row := curveBoundsUptoRow, standIns := [], harness := (true, "1f3423c23bc4b4c17376b9e41b32f4dc4d258eb463ed8d8f15645aee5bdab356"), looks := false }, kinds := [], alts := [], laidByText := true, laidKinds := [.data, .data, .data, .funcsDeep], laidTests := true, laidLooks := .later }
def CurveBoundsUptoCardSaid : Prop := Claim7.holds Tryz.pinned (.plain (OpenSpec.upto curveBoundsSpec)) curveBoundsUptoCard

/-- THE SECOND FORM's CARD OF 'combinerlaw04.CurvePeaks'. -/
def curvePeaksUptoCard : Claim7 := { stood := { row := curvePeaksUptoRow, standIns := [], harness := (true, "1f3423c23bc4b4c17376b9e41b32f4dc4d258eb463ed8d8f15645aee5bdab356"), looks := false }, kinds := [], alts := [], laidByText := true, laidKinds := [.data, .data, .data, .funcsDeep], laidTests := true, laidLooks := .later }
def CurvePeaksUptoCardSaid : Prop := Claim7.holds Tryz.pinned (.plain (OpenSpec.upto curvePeaksSpec)) curvePeaksUptoCard

/-- THE SECOND FORM's CARD OF 'combinerlaw04.CurveHighest'. -/
def curveHighestUptoCard : Claim7 := { stood := { row := curveHighestUptoRow, standIns := [], harness := (true, "1f3423c23bc4b4c17376b9e41b32f4dc4d258eb463ed8d8f15645aee5bdab356"), looks := false }, kinds := [], alts := [], laidByText := true, laidKinds := [.data, .data, .data, .funcsDeep], laidTests := true, laidLooks := .later }
def CurveHighestUptoCardSaid : Prop := Claim7.holds Tryz.pinned (.plain (OpenSpec.upto curveHighestSpec)) curveHighestUptoCard

/-- THE SECOND FORM's CARD OF 'combinerlaw04.CurveDarker'. -/
def curveDarkerUptoCard : Claim7 := { stood := { row := curveDarkerUptoRow, standIns := [], harness := (true, "1f3423c23bc4b4c17376b9e41b32f4dc4d258eb463ed8d8f15645aee5bdab356"), looks := false }, kinds := [], alts := [], laidByText := true, laidKinds := [.data, .data, .data, .funcsDeep], laidTests := true, laidLooks := .later }
def CurveDarkerUptoCardSaid : Prop := Claim7.holds Tryz.pinned (.plain (OpenSpec.upto curveDarkerSpec)) curveDarkerUptoCard

/-- THE SECOND FORM's CARD OF 'combinerlaw04.CurveStrings'. -/
def curveStringsUptoCard : Claim7 := { stood := { row := curveStringsUptoRow, standIns := [], harness := (true, "1f3423c23bc4b4c17376b9e41b32f4dc4d258eb463ed8d8f15645aee5bdab356"), looks := false }, kinds := [], alts := [], laidByText := true, laidKinds := [.data, .data, .data, .data, .funcsDeep, .pinned], laidTests := true, laidLooks := .later }
def CurveStringsUptoCardSaid : Prop := Claim7.holds Tryz.pinned (.plain (OpenSpec.upto curveStringsSpec)) curveStringsUptoCard

/-- THE SECOND FORM's CARD OF 'combinerlaw04.CurveFalls'. -/
def curveFallsUptoCard : Claim7 := { stood := { row := curveFallsUptoRow, standIns := [], harness := (true, "1f3423c23bc4b4c17376b9e41b32f4dc4d258eb463ed8d8f15645aee5bdab356"), looks := false }, kinds := [], alts := [], laidByText := true, laidKinds := [.data, .data, .data, .data, .funcsDeep, .pinned], laidTests := true, laidLooks := .later }
def CurveFallsUptoCardSaid : Prop := Claim7.holds Tryz.pinned (.plain (OpenSpec.upto curveFallsSpec)) curveFallsUptoCard
end Rows
end Go.Proofs.YtbkginjiknnobaaGreatDoor
