/-
  DERIVED. GIVEN WITH THE SEED: THE CARDS: each row of YtmljoaiedihoiaaDoorRows.lean that lists a variable, with what it lists TIED to the program's text (the seventh form; the later family's looks); each row that meets fmt, with fmt's text TOLD by the authors' own Lean function (tested against real Go, not proved from fmt's source: count such statements apart). THE CARD IS WHAT COUNTS. Prove the row's statement (the work); the ties are given (YtmljoaiedihoiaaDoorTie.lean); close each card by the builder's one call (the guide's Derived/Test/ToyasCard.lean, 'card_holds'). Laid BY PROGRAM, IN A SANDBOX (cutbox-door.mjs). By AI agents, Wed Nov 11 2026. No macro, syntax, notation, axiom, sorry.
-/
import Derived.Test.YtmljoaiedihoiaaDoorRows
import GoSem.ClaimSeven
namespace Go.Proofs.YtmljoaiedihoiaaDoor
namespace Rows

/-- THE TIED CARD OF 'privitylaw37.ScheduleNewMatchesReference'. -/
def scheduleNewMatchesReferenceCard : Claim7 := { stood := { row := scheduleNewMatchesReferenceRow, standIns := [], harness := (true, "8aa74abe2c874a37a6ca96a266651127494dd199090862e5c5b4fc0fe72ed9ff"), looks := false }, kinds := [], alts := [], laidByText := true, laidKinds := [.data], laidTests := true, laidLooks := .later }
def ScheduleNewMatchesReferenceCardSaid : Prop := Claim7.holds Tryd.pinned (.plain (OpenSpec.ofChange scheduleNewMatchesReferenceSpec)) scheduleNewMatchesReferenceCard

/-- THE TIED CARD OF 'privitylaw41.BlameDetected'. -/
def blameDetectedCard : Claim7 := { stood := { row := blameDetectedRow, standIns := [], harness := (true, "8aa74abe2c874a37a6ca96a266651127494dd199090862e5c5b4fc0fe72ed9ff"), looks := false }, kinds := [], alts := [], laidByText := true, laidKinds := [.data, .data, .data], laidTests := true, laidLooks := .later }
def BlameDetectedCardSaid : Prop := Claim7.holds Tryd.pinned (.plain (OpenSpec.ofChange blameDetectedSpec)) blameDetectedCard

/-- THE TIED CARD OF 'privitylaw41.BlameIgnoresCorrupt'. -/
def blameIgnoresCorruptCard : Claim7 := { stood := { row := blameIgnoresCorruptRow, standIns := [], harness := (true, "8aa74abe2c874a37a6ca96a266651127494dd199090862e5c5b4fc0fe72ed9ff"), looks := false }, kinds := [], alts := [], laidByText := true, laidKinds := [.data, .data, .data], laidTests := true, laidLooks := .later }
def BlameIgnoresCorruptCardSaid : Prop := Claim7.holds Tryd.pinned (.plain (OpenSpec.ofChange blameIgnoresCorruptSpec)) blameIgnoresCorruptCard

/-- THE SECOND FORM's CARD OF 'privitylaw37.ScheduleNewMatchesReference'. -/
def scheduleNewMatchesReferenceUptoCard : Claim7 := { stood := { row := scheduleNewMatchesReferenceUptoRow, standIns := [], harness := (true, "8aa74abe2c874a37a6ca96a266651127494dd199090862e5c5b4fc0fe72ed9ff"), looks := false }, kinds := [], alts := [], laidByText := true, laidKinds := [.data], laidTests := true, laidLooks := .later }
def ScheduleNewMatchesReferenceUptoCardSaid : Prop := Claim7.holds Tryd.pinned (.plain (OpenSpec.upto scheduleNewMatchesReferenceSpec)) scheduleNewMatchesReferenceUptoCard

/-- THE SECOND FORM's CARD OF 'privitylaw41.BlameDetected'. -/
def blameDetectedUptoCard : Claim7 := { stood := { row := blameDetectedUptoRow, standIns := [], harness := (true, "8aa74abe2c874a37a6ca96a266651127494dd199090862e5c5b4fc0fe72ed9ff"), looks := false }, kinds := [], alts := [], laidByText := true, laidKinds := [.data, .data, .data], laidTests := true, laidLooks := .later }
def BlameDetectedUptoCardSaid : Prop := Claim7.holds Tryd.pinned (.plain (OpenSpec.upto blameDetectedSpec)) blameDetectedUptoCard

/-- THE SECOND FORM's CARD OF 'privitylaw41.BlameIgnoresCorrupt'. -/
def blameIgnoresCorruptUptoCard : Claim7 := { stood := { row := blameIgnoresCorruptUptoRow, standIns := [], harness := (true, "8aa74abe2c874a37a6ca96a266651127494dd199090862e5c5b4fc0fe72ed9ff"), looks := false }, kinds := [], alts := [], laidByText := true, laidKinds := [.data, .data, .data], laidTests := true, laidLooks := .later }
def BlameIgnoresCorruptUptoCardSaid : Prop := Claim7.holds Tryd.pinned (.plain (OpenSpec.upto blameIgnoresCorruptSpec)) blameIgnoresCorruptUptoCard
end Rows
end Go.Proofs.YtmljoaiedihoiaaDoor
