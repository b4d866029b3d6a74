/- The law ScheduleNewMatchesReference holds, as a tied card: for all arguments that the row lets in, where the listed package variables hold what the program's text lays, the call returns true. No condition beyond the row's own. -/
import Derived.Test.YtmljoaiedihoiaaDoorRows
import Derived.Test.YtmljoaiedihoiaaDoorTie
import Derived.Test.YtmljoaiedihoiaaDoorCards
import Derived.Test.YtmljoaiedihoiaaDoorD16
import Derived.WalkKit
import Derived.ProofKit
import Derived.OpenShut
import Derived.ShutString
import Derived.ChangeOld
import Derived.Below
import Derived.SizedLaws
import Derived.Carry
import Derived.LaidMore
import Derived.Lay
import Derived.SevenTiedAt
namespace Go.Proofs.YtmljoaiedihoiaaDoor.scheduleNewMatchesReference
open Go.ChangeShapes Go.WideShapes Go.ChangeAt Go.RowKit Go.AM
set_option linter.unusedVariables false
set_option linter.unusedSimpArgs false
theorem own : ownKnob Tryd.prog.godebug = none := by kernel_rfl
theorem laidOut : laidOutB Tryd.prog = true := by kernel_rfl
set_option maxRecDepth 100000 in
theorem of_laid {W : World} (h : laidMetH Tryd.prog [("privity/circuit.forms", Rows.laid_privity_circuit_forms)] W) : ∀ p ∈ (Glob.tab : List (Nat × List PV)), PCells (mem W) p.1 0 p.2 := by
  rw [MakeChecks.laidMetH_plain _ _ _ (by kernel_rfl)] at h
  obtain ⟨ps, ⟨g0, t0, cs0, f0, p0, q0, hg0, ht0, hv0, hd0, _, _⟩, _, _⟩ := h
  intro p hp
  rw [tab_eq] at hp
  simp only [List.mem_cons, List.not_mem_nil, or_false] at hp
  rcases hp with rfl
  · obtain rfl := Option.some.inj ((show Tryd.prog.globalNamed "privity/circuit.forms" = some 0 by kernel_rfl).symm.trans hg0)
    obtain rfl := Option.some.inj ((show (Tryd.prog.globals[0]?).map (·.type) = some 92 by kernel_rfl).symm.trans ht0)
    exact lit_pcells (vs := [(.string ⟨#[105, 110]⟩), (.int .i64 1), (.bool true), (.bool false), (.bool false), (.bool false), (.bool false), (.string ⟨#[98, 105, 116]⟩), (.int .i64 1), (.bool true), (.bool false), (.bool false), (.bool false), (.bool true), (.string ⟨#[99, 111, 110, 115, 116]⟩), (.int .i64 2), (.bool false), (.bool true), (.bool false), (.bool false), (.bool false), (.string ⟨#[97, 100, 100]⟩), (.int .i64 3), (.bool false), (.bool false), (.bool true), (.bool true), (.bool false), (.string ⟨#[115, 117, 98]⟩), (.int .i64 4), (.bool false), (.bool false), (.bool true), (.bool true), (.bool false), (.string ⟨#[115, 99, 97, 108, 101]⟩), (.int .i64 5), (.bool false), (.bool true), (.bool true), (.bool false), (.bool false), (.string ⟨#[109, 117, 108]⟩), (.int .i64 6), (.bool false), (.bool false), (.bool true), (.bool true), (.bool false)]) (by kernel_rfl) ok_forms hv0 hd0 rfl
set_option maxRecDepth 100000 in
theorem lifted (os : Os) (started : os.Started) (H : Type) (enc : TypeId × Value → H) :
    ReturnsInHanded {} Tryd.checked os 3 .any (fun w args => (Rows.scheduleNewMatchesReferenceSpec.pre enc Tryd.prog Tryd.f3 [] false w args ∧ laidMetH Tryd.prog [("privity/circuit.forms", Rows.laid_privity_circuit_forms)] w) ∧ sizedMet enc Tryd.prog Tryd.f3 (OpenSpec.ofChange Rows.scheduleNewMatchesReferenceSpec) false w args)
      (Rows.scheduleNewMatchesReferenceSpec.post enc Tryd.prog Tryd.f3 false true false false) := by
  refine returnsInHanded_of_change_and (C := Tryd.checked) (X := fun w _ => laidMetH Tryd.prog [("privity/circuit.forms", Rows.laid_privity_circuit_forms)] w) (fun _ _ _ hh h => h.of_heap hh) own started (by kernel_rfl) Tryd.func3
    (ChangeSpec.witness_shaped (enc := enc) (C := Tryd.checked) (os := os) (X := fun w _ => laidMetH Tryd.prog [("privity/circuit.forms", Rows.laid_privity_circuit_forms)] w) false (World.laidAll Tryd.prog os [("privity/circuit.forms", Rows.laid_privity_circuit_forms)]) #[.agg #[.int .u64 0, .slice none 0 0, .slice none 0 0]] 8 (World.laidAll_os _ _ _)
      (World.shaped_of_ZipB (by kernel_rfl) (by kernel_rfl)) (by kernel_rfl) (by kernel_rfl) (by kernel_rfl)
      (by rw [MakeChecks.laidMetH_plain _ _ _ (by kernel_rfl)]; exact laidMet_laidAll _ (by kernel_rfl) (by kernel_rfl))) ?_
  intro W base args ds gs before hval0 hW _ _ hL _
  have hval : ∀ (j : Nat) t v, Tryd.f3.params[j]? = some t → args[j]? = some v → Value.okWide Tryd.prog W .any base t v := hval0
  have hW' := hW
  obtain ⟨p, q, hA0, hV, rfl, hfz, hnd⟩ := hW
  have hA : DataW.TrodAll enc Tryd.prog W 0 (fun _ => true) true Tryd.f3.params.toList args.toList ds p := hA0
  rw [Tryd.params3] at hA hval
  obtain ⟨v0, vs0, d0, ds0, p0, q0, hargs, rfl, rfl, h0, r0⟩ := trodAll_cons hA
  obtain ⟨rfl, rfl, rfl⟩ := trodAll_nil r0
  obtain rfl : args = #[v0] := by cases args; simp_all
  obtain ⟨rfl, rfl⟩ := trodVars_none hV
  have k0 := h0
  have lt0 : ∀ x ∈ p0, x.block < W.heap.size := by obtain ⟨m, hm⟩ := k0; exact DataW.trod_lt m _ _ _ hm
  obtain ⟨c0, w0, e0⟩ := open_arg (G := gh0 W) (sh := shCirc) rfl ok_circ (hval 0 26 v0 rfl rfl) h0
  obtain ⟨p0, gs0, os0, z0⟩ := wt_circ w0
  rw [z0] at e0
  clear hA0 hval0
  refine (law_calls (law_new p0 gs0 os0) (vs := [v0]) (by simp only [RelL]; exact ⟨e0, trivial⟩) (of_laid hL)).mono fun e W' ⟨he, bel⟩ => ?_
  subst he
  exact ⟨_, rfl, _, _, _, [], _, [], hW', trodAll_mk1 (shut_bool Tryd.underlying4 _), (trodAll_cons_mk (Below.trod laidOut (by kernel_rfl) (of_decide_eq_true (by kernel_rfl)) k0 bel lt0) trodAll_mk0), rfl, bel.frame _, fun h => by cases h⟩
theorem over : Rows.scheduleNewMatchesReferenceRow.holds Tryd.pinned (OpenSpec.ofChange Rows.scheduleNewMatchesReferenceSpec) :=
  OpenClaim.holds_of_wide 3 Tryd.f3 rfl rfl rfl rfl rfl rfl rfl ⟨rfl, rfl, rfl, rfl, rfl⟩ rfl rfl rfl rfl rfl (by kernel_rfl) Tryd.func3 (by kernel_rfl)
    (of_decide_eq_true (by kernel_rfl)) (by unfold Func.isWrapper; first | (rw [if_pos (by decide +kernel)]; kernel_rfl) | (rw [if_neg (by decide +kernel)]; exact ⟨rfl, rfl⟩))
    (fun os started H enc _ => lifted os started H enc)
theorem card : Rows.ScheduleNewMatchesReferenceCardSaid :=
  Claim7.holds_tied_plain_at .later [] [.data] true (true, "8aa74abe2c874a37a6ca96a266651127494dd199090862e5c5b4fc0fe72ed9ff") false
    over (fun _ h => by cases h) (by kernel_rfl) (fun _ h => by cases h) scheduleNewMatchesReference_row_tie rfl ⟨rfl, rfl⟩ (by kernel_rfl) rfl
    (fun f fn hf hfn => by
      obtain rfl : f = 3 := Option.some.inj ((show Tryd.prog.funcNamed "privity/privitylaw37.ScheduleNewMatchesReference" = some 3 by kernel_rfl).symm.trans hf) |>.symm
      obtain rfl : fn = Tryd.f3 := (Option.some.inj (Tryd.func3.symm.trans hfn)).symm
      exact ⟨by kernel_rfl, fun j t ht => by
        rw [Tryd.params3] at ht
        have hm : t ∈ [26] := by simpa using Array.mem_of_getElem? ht
        have hall : ([26].all fun u => !Tryd.prog.wantsStandIn u) = true := by kernel_rfl
        exact (show Tryd.prog.wantsStandIn t = false by simpa using List.all_eq_true.1 hall t hm)⟩)
    (by kernel_rfl)
#print axioms card
end Go.Proofs.YtmljoaiedihoiaaDoor.scheduleNewMatchesReference
namespace Go.Proofs.YtmljoaiedihoiaaDoor
/-- The card, under a short name, for the claim. -/
theorem scheduleNewMatchesReference_holds : Rows.ScheduleNewMatchesReferenceCardSaid := scheduleNewMatchesReference.card
end Go.Proofs.YtmljoaiedihoiaaDoor
