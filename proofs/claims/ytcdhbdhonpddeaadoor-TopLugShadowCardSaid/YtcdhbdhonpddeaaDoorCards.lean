/-
  DERIVED. GIVEN WITH THE SEED: THE CARDS: each row of YtcdhbdhonpddeaaDoorRows.lean that lists a variable, with what it lists TIED to the program's text (the seventh form; the later family's looks); each row that meets fmt, with fmt's text TOLD by the authors' own Lean function (tested against real Go, not proved from fmt's source: count such statements apart). THE CARD IS WHAT COUNTS. Prove the row's statement (the work); the ties are given (YtcdhbdhonpddeaaDoorTie.lean); close each card by the builder's one call (the guide's Derived/Test/ToyasCard.lean, 'card_holds'). Laid BY PROGRAM, IN A SANDBOX (cutbox-door.mjs). By AI agents, Wed Nov 11 2026. No macro, syntax, notation, axiom, sorry.
-/
import Derived.Test.YtcdhbdhonpddeaaDoorRows
import GoSem.ClaimSeven
namespace Go.Proofs.YtcdhbdhonpddeaaDoor
namespace Rows

/-- THE TIED CARD OF 'combinerlaw04.CurveShapes'. -/
def curveShapesCard : Claim7 := { stood := { row := curveShapesRow, standIns := [], harness := (true, "b404e26011be7cc8eb0b7662d91d0fee04912a4779d8e4bbcd63d28bd42d8f64"), looks := false }, kinds := [], alts := [], laidByText := true, laidKinds := [.data, .data, .data, .funcsDeep], laidTests := true, laidLooks := .later }
def CurveShapesCardSaid : Prop := Claim7.holds Tryd.pinned (.plain (OpenSpec.ofChange curveShapesSpec)) curveShapesCard

/-- THE TIED CARD OF 'combinertop.TopLugShadow'. -/
def topLugShadowCard : Claim7 := { stood := { row := topLugShadowRow, standIns := [], harness := (true, "b404e26011be7cc8eb0b7662d91d0fee04912a4779d8e4bbcd63d28bd42d8f64"), looks := false }, kinds := [], alts := [], laidByText := true, laidKinds := [.funcs], laidTests := true, laidLooks := .later }
def TopLugShadowCardSaid : Prop := Claim7.holds Tryd.pinned (.plain (OpenSpec.ofChange topLugShadowSpec)) topLugShadowCard

/-- THE SECOND FORM's CARD OF 'combinerlaw04.CurveShapes'. -/
def curveShapesUptoCard : Claim7 := { stood := { row := curveShapesUptoRow, standIns := [], harness := (true, "b404e26011be7cc8eb0b7662d91d0fee04912a4779d8e4bbcd63d28bd42d8f64"), looks := false }, kinds := [], alts := [], laidByText := true, laidKinds := [.data, .data, .data, .funcsDeep], laidTests := true, laidLooks := .later }
def CurveShapesUptoCardSaid : Prop := Claim7.holds Tryd.pinned (.plain (OpenSpec.upto curveShapesSpec)) curveShapesUptoCard

/-- THE SECOND FORM's CARD OF 'combinertop.TopLugShadow'. -/
def topLugShadowUptoCard : Claim7 := { stood := { row := topLugShadowUptoRow, standIns := [], harness := (true, "b404e26011be7cc8eb0b7662d91d0fee04912a4779d8e4bbcd63d28bd42d8f64"), looks := false }, kinds := [], alts := [], laidByText := true, laidKinds := [.funcs], laidTests := true, laidLooks := .later }
def TopLugShadowUptoCardSaid : Prop := Claim7.holds Tryd.pinned (.plain (OpenSpec.upto topLugShadowSpec)) topLugShadowUptoCard
end Rows
end Go.Proofs.YtcdhbdhonpddeaaDoor
