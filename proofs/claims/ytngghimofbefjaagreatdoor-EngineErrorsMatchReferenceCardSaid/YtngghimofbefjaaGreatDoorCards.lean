/-
  DERIVED. GIVEN WITH THE SEED: THE CARDS: each row of YtngghimofbefjaaGreatDoorRows.lean that lists a variable, with what it lists TIED to the program's text (the seventh form; the later family's looks); each row that meets fmt, with fmt's text TOLD by the authors' own Lean function (tested against real Go, not proved from fmt's source: count such statements apart). THE CARD IS WHAT COUNTS. Prove the row's statement (the work); the ties are given (YtngghimofbefjaaGreatDoorTie.lean); close each card by the builder's one call (the guide's Derived/Test/ToyasCard.lean, 'card_holds'). Laid BY PROGRAM, IN A SANDBOX (cutbox-door.mjs). By AI agents, Wed Nov 11 2026. No macro, syntax, notation, axiom, sorry.
-/
import Derived.Test.YtngghimofbefjaaGreatDoorRows
import GoSem.ClaimSeven
namespace Go.Proofs.YtngghimofbefjaaGreatDoor
namespace Rows

/-- THE TIED CARD OF 'privitylaw40.EngineErrorsMatchReference'. -/
def engineErrorsMatchReferenceCard : Claim7 := { stood := { row := engineErrorsMatchReferenceRow, standIns := [], harness := (true, "133fe351553f973b2c28d961696f4dc11bb8bf276c3141cab1403a6bb0322c07"), looks := false }, kinds := [], alts := [], goes := true, laidByText := true, laidKinds := [.data, .data], laidTests := true, laidLooks := .later }
def EngineErrorsMatchReferenceCardSaid : Prop := Claim7.holds Tryz.pinned (.plain (OpenSpec.ofChange engineErrorsMatchReferenceSpec)) engineErrorsMatchReferenceCard

/-- THE SECOND FORM's CARD OF 'privitylaw40.EngineErrorsMatchReference'. -/
def engineErrorsMatchReferenceUptoCard : Claim7 := { stood := { row := engineErrorsMatchReferenceUptoRow, standIns := [], harness := (true, "133fe351553f973b2c28d961696f4dc11bb8bf276c3141cab1403a6bb0322c07"), looks := false }, kinds := [], alts := [], goes := true, laidByText := true, laidKinds := [.data, .data], laidTests := true, laidLooks := .later }
def EngineErrorsMatchReferenceUptoCardSaid : Prop := Claim7.holds Tryz.pinned (.plain (OpenSpec.upto engineErrorsMatchReferenceSpec)) engineErrorsMatchReferenceUptoCard
end Rows
end Go.Proofs.YtngghimofbefjaaGreatDoor
