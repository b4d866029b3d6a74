/-
  DERIVED. GIVEN WITH THE SEED: THE PROGRAM's TIES (one call each: nine closed facts by the kernel) AND EACH ROW's TIE, after the 31st guide's Derived/Test/Toyas{Tie, Card}.lean. No idea stands in it: it is a product of the set-up. Laid BY PROGRAM, IN A SANDBOX (cutbox-door.mjs). By AI agents, Wed Nov 11 2026. No macro, syntax, notation, axiom, sorry.
-/
import Derived.Test.YtngghimofbefjaaGreatDoorRows
import Derived.LaidByTextLater
import Derived.SevenTiedAt
import Derived.LaidSub
import Derived.LaidOnce
namespace Go.Proofs.YtngghimofbefjaaGreatDoor
open Go
set_option maxRecDepth 100000
theorem seatTie1 : Tryz.prog.laidByTextLater [("privity/field.exps", Rows.laid_privity_field_exps), ("privity/circuit.forms", Rows.laid_privity_circuit_forms)] [.data, .data] true :=
  Program.laidByTextLater_by_one 26 8 50 (by kernel_rfl) (by kernel_rfl) (by kernel_rfl) (by kernel_rfl) (by kernel_rfl) (by kernel_rfl) (fun _ _ => by kernel_rfl)
theorem noOwnUnsafe : Tryz.pinned.checked.prog.headLifts.contains "ownunsafe" = false := by kernel_rfl
theorem tie : Tryz.prog.laidByTextLater [("privity/field.exps", Rows.laid_privity_field_exps), ("privity/circuit.forms", Rows.laid_privity_circuit_forms)] [.data, .data] true :=
  Program.laidByTextLater.sub seatTie1 ["privity/field.exps", "privity/circuit.forms"] (by kernel_rfl) (by kernel_rfl)
theorem engineErrorsMatchReference_row_tie : Rows.engineErrorsMatchReferenceRow.laidByTextAt .later Tryz.pinned [.data, .data] true :=
  OpenClaim.laidByTextAt_later rfl rfl tie noOwnUnsafe
theorem engineErrorsMatchReferenceUpto_row_tie : Rows.engineErrorsMatchReferenceUptoRow.laidByTextAt .later Tryz.pinned [.data, .data] true :=
  OpenClaim.laidByTextAt_later rfl rfl tie noOwnUnsafe
end Go.Proofs.YtngghimofbefjaaGreatDoor
