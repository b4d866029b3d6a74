/- The law EngineErrorsMatchReference holds, as a tied card: for all arguments that the row lets in, where the listed package variables hold what the program's text lays, the call returns true. No condition beyond the row's own. -/
import Derived.Test.YtngghimofbefjaaGreatDoorRows
import Derived.Test.YtngghimofbefjaaGreatDoorTie
import Derived.Test.YtngghimofbefjaaGreatDoorCards
import Derived.Test.YtngghimofbefjaaGreatDoorG30
import Derived.Test.YtngghimofbefjaaGreatDoorM4
import Derived.Test.YtngghimofbefjaaGreatDoorK1
import Derived.WalkKit
import Derived.ProofKit
import Derived.OpenShut
import Derived.ShutString
import Derived.ChangeOld
import Derived.Below
import Derived.SizedLaws
import Derived.Carry
import Derived.LaidMore
import Derived.Lay
import Derived.SevenTiedAt
namespace Go.Proofs.YtngghimofbefjaaGreatDoor.engineErrorsMatchReference
open Go.ChangeShapes Go.WideShapes Go.ChangeAt Go.RowKit Go.AM
set_option linter.unusedVariables false
set_option linter.unusedSimpArgs false
theorem own : ownKnob Tryz.prog.godebug = none := by kernel_rfl
theorem laidOut : laidOutB Tryz.prog = true := by kernel_rfl
set_option maxRecDepth 100000 in
theorem of_laid {W : World} (h : laidMetH Tryz.prog [("privity/field.exps", Rows.laid_privity_field_exps), ("privity/circuit.forms", Rows.laid_privity_circuit_forms)] W) : ∀ p ∈ (Glob.tab : List (Nat × List PV)), PCells (mem W) p.1 0 p.2 := by
  rw [MakeChecks.laidMetH_plain _ _ _ (by kernel_rfl)] at h
  obtain ⟨ps, ⟨g0, t0, cs0, f0, p0, q0, hg0, ht0, hv0, hd0, ⟨g1, t1, cs1, f1, p1, q1, hg1, ht1, hv1, hd1, _, _⟩, _⟩, _, _⟩ := h
  intro p hp
  rw [tab_eq] at hp
  simp only [List.mem_cons, List.not_mem_nil, or_false] at hp
  rcases hp with rfl | rfl
  · obtain rfl := Option.some.inj ((show Tryz.prog.globalNamed "privity/field.exps" = some 0 by kernel_rfl).symm.trans hg0)
    obtain rfl := Option.some.inj ((show (Tryz.prog.globals[0]?).map (·.type) = some 290 by kernel_rfl).symm.trans ht0)
    exact lit_pcells (vs := [(.int .i64 5), (.int .i64 7), (.int .i64 13), (.int .i64 17), (.int .i64 19), (.int .i64 31), (.int .i64 61)]) (by kernel_rfl) ok_exps hv0 hd0 rfl
  · obtain rfl := Option.some.inj ((show Tryz.prog.globalNamed "privity/circuit.forms" = some 1 by kernel_rfl).symm.trans hg1)
    obtain rfl := Option.some.inj ((show (Tryz.prog.globals[1]?).map (·.type) = some 291 by kernel_rfl).symm.trans ht1)
    exact lit_pcells (vs := [(.string ⟨#[105, 110]⟩), (.int .i64 1), (.bool true), (.bool false), (.bool false), (.bool false), (.bool false), (.string ⟨#[98, 105, 116]⟩), (.int .i64 1), (.bool true), (.bool false), (.bool false), (.bool false), (.bool true), (.string ⟨#[99, 111, 110, 115, 116]⟩), (.int .i64 2), (.bool false), (.bool true), (.bool false), (.bool false), (.bool false), (.string ⟨#[97, 100, 100]⟩), (.int .i64 3), (.bool false), (.bool false), (.bool true), (.bool true), (.bool false), (.string ⟨#[115, 117, 98]⟩), (.int .i64 4), (.bool false), (.bool false), (.bool true), (.bool true), (.bool false), (.string ⟨#[115, 99, 97, 108, 101]⟩), (.int .i64 5), (.bool false), (.bool true), (.bool true), (.bool false), (.bool false), (.string ⟨#[109, 117, 108]⟩), (.int .i64 6), (.bool false), (.bool false), (.bool true), (.bool true), (.bool false)]) (by kernel_rfl) ok_forms hv1 hd1 rfl
set_option maxRecDepth 100000 in
theorem lifted (os : Os) (started : os.Started) (H : Type) (enc : TypeId × Value → H) :
    ReturnsInHanded {} Tryz.checked os 3 .any (fun w args => (Rows.engineErrorsMatchReferenceSpec.pre enc Tryz.prog Tryz.f3 [] false w args ∧ laidMetH Tryz.prog [("privity/field.exps", Rows.laid_privity_field_exps), ("privity/circuit.forms", Rows.laid_privity_circuit_forms)] w) ∧ sizedMet enc Tryz.prog Tryz.f3 (OpenSpec.ofChange Rows.engineErrorsMatchReferenceSpec) false w args)
      (Rows.engineErrorsMatchReferenceSpec.post enc Tryz.prog Tryz.f3 false true false false) := by
  refine returnsInHanded_of_change_and (C := Tryz.checked) (X := fun w _ => laidMetH Tryz.prog [("privity/field.exps", Rows.laid_privity_field_exps), ("privity/circuit.forms", Rows.laid_privity_circuit_forms)] w) (fun _ _ _ hh h => h.of_heap hh) own started (by kernel_rfl) Tryz.func3
    (ChangeSpec.witness_shaped (enc := enc) (C := Tryz.checked) (os := os) (X := fun w _ => laidMetH Tryz.prog [("privity/field.exps", Rows.laid_privity_field_exps), ("privity/circuit.forms", Rows.laid_privity_circuit_forms)] w) false (World.laidAll Tryz.prog os [("privity/field.exps", Rows.laid_privity_field_exps), ("privity/circuit.forms", Rows.laid_privity_circuit_forms)]) #[.agg #[.int .u64 0, .int .i64 0, .int .i64 0, .slice none 0 0, .slice none 0 0, .slice none 0 0, .int .u64 0, .slice none 0 0, .slice none 0 0, .slice none 0 0]] 8 (World.laidAll_os _ _ _)
      (World.shaped_of_ZipB (by kernel_rfl) (by kernel_rfl)) (by kernel_rfl) (by kernel_rfl) (by kernel_rfl)
      (by rw [MakeChecks.laidMetH_plain _ _ _ (by kernel_rfl)]; exact laidMet_laidAll _ (by kernel_rfl) (by kernel_rfl))) ?_
  intro W base args ds gs before hval0 hW _ _ hL _
  have hval : ∀ (j : Nat) t v, Tryz.f3.params[j]? = some t → args[j]? = some v → Value.okWide Tryz.prog W .any base t v := hval0
  have hW' := hW
  obtain ⟨p, q, hA0, hV, rfl, hfz, hnd⟩ := hW
  have hA : DataW.TrodAll enc Tryz.prog W 0 (fun _ => true) true Tryz.f3.params.toList args.toList ds p := hA0
  rw [Tryz.params3] at hA hval
  obtain ⟨v0, vs0, d0, ds0, p0, q0, hargs, rfl, rfl, h0, r0⟩ := trodAll_cons hA
  obtain ⟨rfl, rfl, rfl⟩ := trodAll_nil r0
  obtain rfl : args = #[v0] := by cases args; simp_all
  obtain ⟨rfl, rfl⟩ := trodVars_none hV
  have k0 := h0
  have lt0 : ∀ x ∈ p0, x.block < W.heap.size := by obtain ⟨m, hm⟩ := k0; exact DataW.trod_lt m _ _ _ hm
  obtain ⟨c0, w0, e0⟩ := open_arg (G := gh0 W) (sh := shPlay) rfl ok_play (hval 0 34 v0 rfl rfl) h0
  obtain ⟨sc0, pp0, gg0, oo0, xx0, hk0, z0⟩ := wt_play w0
  rw [z0] at e0
  clear hA0 hval0
  refine (law_calls (law_errors sc0 pp0 gg0 oo0 xx0 hk0) (vs := [v0]) (by simp only [RelL]; exact ⟨e0, trivial⟩) (of_laid hL)).mono fun e W' ⟨he, bel⟩ => ?_
  subst he
  exact ⟨_, rfl, _, _, _, [], _, [], hW', trodAll_mk1 (shut_bool Tryz.underlying4 _), (trodAll_cons_mk (Below.trod laidOut (by kernel_rfl) (of_decide_eq_true (by kernel_rfl)) k0 bel lt0) trodAll_mk0), rfl, bel.frame _, fun h => by cases h⟩
theorem over : Rows.engineErrorsMatchReferenceRow.holds Tryz.pinned (OpenSpec.ofChange Rows.engineErrorsMatchReferenceSpec) :=
  OpenClaim.holds_of_wide_leaving 3 Tryz.f3 rfl rfl rfl rfl rfl rfl rfl ⟨rfl, rfl, rfl, rfl, rfl⟩ rfl rfl rfl rfl rfl (by kernel_rfl) Tryz.func3 engineErrorsMatchReferenceFacts.joined
    (of_decide_eq_true (by kernel_rfl)) (by unfold Func.isWrapper; first | (rw [if_pos (by decide +kernel)]; kernel_rfl) | (rw [if_neg (by decide +kernel)]; exact ⟨rfl, rfl⟩))
    (fun os started H enc _ => leaving_of_handed (lifted os started H enc))
theorem card : Rows.EngineErrorsMatchReferenceCardSaid :=
  holds_tied_goes_at .later [] [.data, .data] true (true, "133fe351553f973b2c28d961696f4dc11bb8bf276c3141cab1403a6bb0322c07") false true
    over (fun _ h => by cases h) (by kernel_rfl) (fun _ h => by cases h) engineErrorsMatchReference_row_tie rfl ⟨rfl, rfl⟩ (by kernel_rfl) rfl
    (fun f fn hf hfn => by
      obtain rfl : f = 3 := Option.some.inj ((show Tryz.prog.funcNamed "privity/privitylaw40.EngineErrorsMatchReference" = some 3 by kernel_rfl).symm.trans hf) |>.symm
      obtain rfl : fn = Tryz.f3 := (Option.some.inj (Tryz.func3.symm.trans hfn)).symm
      exact ⟨by kernel_rfl, fun j t ht => by
        rw [Tryz.params3] at ht
        have hm : t ∈ [34] := by simpa using Array.mem_of_getElem? ht
        have hall : ([34].all fun u => !Tryz.prog.wantsStandIn u) = true := by kernel_rfl
        exact (show Tryz.prog.wantsStandIn t = false by simpa using List.all_eq_true.1 hall t hm)⟩)
    (by kernel_rfl)
#print axioms card
end Go.Proofs.YtngghimofbefjaaGreatDoor.engineErrorsMatchReference
namespace Go.Proofs.YtngghimofbefjaaGreatDoor
/-- The card, under a short name, for the claim. -/
theorem engineErrorsMatchReference_holds : Rows.EngineErrorsMatchReferenceCardSaid := engineErrorsMatchReference.card
end Go.Proofs.YtngghimofbefjaaGreatDoor
