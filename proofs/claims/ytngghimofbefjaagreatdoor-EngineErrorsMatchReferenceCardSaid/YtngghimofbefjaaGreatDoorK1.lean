/- The closed facts of the row of EngineErrorsMatchReference, one by one: what the row lists is what the program's text gives. No condition. -/
import Derived.Test.YtngghimofbefjaaGreatDoorRows
import Derived.JoinedOf
import Derived.KernelRfl
namespace Go.Proofs.YtngghimofbefjaaGreatDoor.engineErrorsMatchReferenceFacts
open Go
theorem andI {a b : Bool} (h : a = true) (g : b = true) : (a && b) = true := by rw [h, g]; rfl
theorem c0 : (Rows.engineErrorsMatchReferenceRow.wf (OpenSpec.ofChange Rows.engineErrorsMatchReferenceSpec)) = true := by kernel_rfl
theorem c1 : (laidOutB Tryz.prog) = true := by kernel_rfl
theorem c2 : (mapsRowed Tryz.prog) = true := by kernel_rfl
theorem c3 : (Tryz.f3.params.all (Tryz.prog.readableRec ·)) = true := by kernel_rfl
theorem c4 : (namedTie Tryz.prog Rows.engineErrorsMatchReferenceRow.named Rows.engineErrorsMatchReferenceSpec.vars) = true := by kernel_rfl
theorem c5 : ((Rows.engineErrorsMatchReferenceRow.stops == [])) = true := by kernel_rfl
theorem c6 : ((Tryz.prog.stops == [])) = true := by kernel_rfl
theorem c7 : ((Rows.engineErrorsMatchReferenceRow.knobs == [])) = true := by kernel_rfl
theorem c8 : ((Tryz.prog.stopKnobs == [])) = true := by kernel_rfl
theorem c9 : ((Rows.engineErrorsMatchReferenceRow.inPlace == Tryz.prog.inPlace 3)) = true := by kernel_rfl
theorem c10 : ((Rows.engineErrorsMatchReferenceRow.unfollowed == Tryz.prog.unfollowed 3)) = true := by kernel_rfl
theorem c11 : ((Rows.engineErrorsMatchReferenceRow.recurses == Tryz.prog.recurses 3)) = true := by kernel_rfl
theorem c12 : ((Rows.engineErrorsMatchReferenceRow.named == Tryz.prog.varsNamed 3)) = true := by kernel_rfl
theorem c13 : ((Rows.engineErrorsMatchReferenceRow.maps == (Tryz.f3.params.toList ++ Rows.engineErrorsMatchReferenceSpec.plain.varTypes Tryz.prog).any (Tryz.prog.mapsRec ·))) = true := by kernel_rfl
theorem c14 : ((Rows.engineErrorsMatchReferenceRow.ifaces == (Tryz.f3.params.toList ++ Rows.engineErrorsMatchReferenceSpec.plain.varTypes Tryz.prog).any (Tryz.prog.ifacesRec ·))) = true := by kernel_rfl
theorem c15 : ((Rows.engineErrorsMatchReferenceRow.mapsOut == Tryz.prog.mapsAmong Tryz.f3.resultTypes.toList)) = true := by kernel_rfl
theorem c16 : ((Rows.engineErrorsMatchReferenceRow.loops == (Tryz.f3.params.toList ++ Rows.engineErrorsMatchReferenceSpec.plain.varTypes Tryz.prog).any (Tryz.prog.loopsFrom ·))) = true := by kernel_rfl
theorem c17 : ((Rows.engineErrorsMatchReferenceRow.wideKeys == (Tryz.f3.params.toList ++ Rows.engineErrorsMatchReferenceSpec.plain.varTypes Tryz.prog ++ Tryz.f3.resultTypes.toList).any (Tryz.prog.wideKeysFrom ·))) = true := by kernel_rfl
theorem c18 : (Rows.engineErrorsMatchReferenceSpec.vars.all (Tryz.prog.varReadable ·)) = true := by kernel_rfl
theorem c19 : (Tryz.f3.resultTypes.all (fun t => Tryz.prog.readableRec t && decide (t < Tryz.prog.types.size))) = true := by kernel_rfl
theorem c20 : ((Rows.engineErrorsMatchReferenceRow.ifacesOut == Tryz.f3.resultTypes.toList.any (Tryz.prog.ifacesRec ·))) = true := by kernel_rfl
theorem c21 : ((Rows.engineErrorsMatchReferenceRow.loopsOut == Tryz.f3.resultTypes.toList.any (Tryz.prog.loopsFrom ·))) = true := by kernel_rfl
theorem c22 : ((Rows.engineErrorsMatchReferenceRow.plainKeys == Tryz.prog.plainKeys)) = true := by kernel_rfl
theorem c23 : (Rows.engineErrorsMatchReferenceRow.shortTexts.isNone) = true := by kernel_rfl
theorem c24 : (Tryz.prog.stopsHeard) = true := by kernel_rfl
theorem c25 : (Tryz.prog.mayEnter) = true := by kernel_rfl
theorem c26 : ((Rows.engineErrorsMatchReferenceRow.lifted == Tryz.prog.liftsFinal)) = true := by kernel_rfl
theorem c27 : ((Tryz.prog.make == some Rows.engineErrorsMatchReferenceRow.make)) = true := by kernel_rfl
theorem c29 : ((Rows.engineErrorsMatchReferenceRow.pinned == Rows.engineErrorsMatchReferenceRow.pinnedBy)) = true := by kernel_rfl
theorem c30 : ((Rows.engineErrorsMatchReferenceRow.veiled == (Tryz.f3.params.toList ++ Rows.engineErrorsMatchReferenceSpec.plain.varTypes Tryz.prog ++ Tryz.f3.resultTypes.toList).any (Tryz.prog.veiledRec ·))) = true := by kernel_rfl
theorem c31 : (Rows.engineErrorsMatchReferenceRow.veiledFits Tryz.prog Tryz.f3.params.toList (Tryz.f3.params.toList ++ Rows.engineErrorsMatchReferenceSpec.plain.varTypes Tryz.prog ++ Tryz.f3.resultTypes.toList)) = true := by kernel_rfl
theorem joined : joinedFacts Tryz.prog 3 Tryz.f3 Rows.engineErrorsMatchReferenceSpec Rows.engineErrorsMatchReferenceRow = true := by
  unfold joinedFacts
  exact andI (andI (andI (andI (andI (andI (andI (andI (andI (andI (andI (andI (andI (andI (andI (andI (andI (andI (andI (andI (andI (andI (andI (andI (andI (andI (andI (andI (andI (andI (andI (c0) c1) c2) c3) c4) c5) c6) c7) c8) c9) c10) c11) c12) c13) c14) c15) c16) c17) c18) c19) c20) c21) c22) c23) c24) c25) c26) c27) (by kernel_rfl)) c29) c30) c31
end Go.Proofs.YtngghimofbefjaaGreatDoor.engineErrorsMatchReferenceFacts
