/-
  DERIVED. GIVEN WITH THE SEED: THE CARDS: each row of YtbkginjiknnobaaDoorRows.lean that lists a variable, with what it lists TIED to the program's text (the seventh form; the later family's looks); each row that meets fmt, with fmt's text TOLD by the authors' own Lean function (tested against real Go, not proved from fmt's source: count such statements apart). THE CARD IS WHAT COUNTS. Prove the row's statement (the work); the ties are given (YtbkginjiknnobaaDoorTie.lean); close each card by the builder's one call (the guide's Derived/Test/ToyasCard.lean, 'card_holds'). Laid BY PROGRAM, IN A SANDBOX (cutbox-door.mjs). By AI agents, Wed Nov 11 2026. No macro, syntax, notation, axiom, sorry.
-/
import Derived.Test.YtbkginjiknnobaaDoorRows
import GoSem.ClaimSeven
namespace Go.Proofs.YtbkginjiknnobaaDoor
namespace Rows

/-- THE TIED CARD OF 'combinerlaw04.CurveShapes'. -/
def curveShapesCard : Claim7 := { stood := { row := curveShapesRow, standIns := [], harness := (true, "31f4aff8d454d4a425da7c7185c1a264757f3a60047b9341e04bfa9a2f6b7ff1"), looks := false }, kinds := [], alts := [], laidByText := true, laidKinds := [.data, .data, .data, .funcsDeep], laidTests := true, laidLooks := .later }
def CurveShapesCardSaid : Prop := Claim7.holds Tryd.pinned (.plain (OpenSpec.ofChange curveShapesSpec)) curveShapesCard

/-- THE SECOND FORM's CARD OF 'combinerlaw04.CurveShapes'. -/
def curveShapesUptoCard : Claim7 := { stood := { row := curveShapesUptoRow, standIns := [], harness := (true, "31f4aff8d454d4a425da7c7185c1a264757f3a60047b9341e04bfa9a2f6b7ff1"), looks := false }, kinds := [], alts := [], laidByText := true, laidKinds := [.data, .data, .data, .funcsDeep], laidTests := true, laidLooks := .later }
def CurveShapesUptoCardSaid : Prop := Claim7.holds Tryd.pinned (.plain (OpenSpec.upto curveShapesSpec)) curveShapesUptoCard
end Rows
end Go.Proofs.YtbkginjiknnobaaDoor
