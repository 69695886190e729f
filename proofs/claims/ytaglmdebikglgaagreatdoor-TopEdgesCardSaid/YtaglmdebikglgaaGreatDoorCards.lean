/-
  DERIVED. GIVEN WITH THE SEED: THE CARDS: each row of YtaglmdebikglgaaGreatDoorRows.lean that lists a variable, with what it lists TIED to the program's text (the seventh form; the later family's looks); each row that meets fmt, with fmt's text TOLD by the authors' own Lean function (tested against real Go, not proved from fmt's source: count such statements apart). THE CARD IS WHAT COUNTS. Prove the row's statement (the work); the ties are given (YtaglmdebikglgaaGreatDoorTie.lean); close each card by the builder's one call (the guide's Derived/Test/ToyasCard.lean, 'card_holds'). Laid BY PROGRAM, IN A SANDBOX (cutbox-door.mjs). By AI agents, Wed Nov 11 2026. No macro, syntax, notation, axiom, sorry.
-/
import Derived.Test.YtaglmdebikglgaaGreatDoorRows
import GoSem.ClaimSeven
namespace Go.Proofs.YtaglmdebikglgaaGreatDoor
namespace Rows

/-- THE TIED CARD OF 'mapsheetstop.TopEdges'. -/
def topEdgesCard : Claim7 := { stood := { row := topEdgesRow, standIns := [], harness := (true, "5ab7f346ab282903e675d557152a93fe38a236c5896d863cf99a8bd0b5c071c6"), looks := false }, kinds := [], alts := [], laidByText := true, laidKinds := [.data], laidTests := true, laidLooks := .later }
def TopEdgesCardSaid : Prop := Claim7.holds Tryz.pinned (.plain (OpenSpec.ofChange topEdgesSpec)) topEdgesCard

/-- THE SECOND FORM's CARD OF 'mapsheetstop.TopEdges'. -/
def topEdgesUptoCard : Claim7 := { stood := { row := topEdgesUptoRow, standIns := [], harness := (true, "5ab7f346ab282903e675d557152a93fe38a236c5896d863cf99a8bd0b5c071c6"), looks := false }, kinds := [], alts := [], laidByText := true, laidKinds := [.data], laidTests := true, laidLooks := .later }
def TopEdgesUptoCardSaid : Prop := Claim7.holds Tryz.pinned (.plain (OpenSpec.upto topEdgesSpec)) topEdgesUptoCard
end Rows
end Go.Proofs.YtaglmdebikglgaaGreatDoor
