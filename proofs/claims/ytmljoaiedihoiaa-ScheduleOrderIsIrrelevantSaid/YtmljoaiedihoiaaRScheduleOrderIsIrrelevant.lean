/- The law ScheduleOrderIsIrrelevant of privitylaw37 holds: for all arguments that the row lets in, the call returns true. No condition beyond the row's own. -/
import Derived.Test.YtmljoaiedihoiaaRows
import Derived.Test.YtmljoaiedihoiaaL5
import Derived.WalkKit
import Derived.ProofKit
import Derived.OpenShut
import Derived.ShutString
import Derived.ChangeOld
import Derived.Below
import Derived.SizedLaws
import Derived.Carry
namespace Go.Proofs.Ytmljoaiedihoiaa.scheduleOrderIsIrrelevant
open Go.ChangeShapes Go.WideShapes Go.ChangeAt Go.RowKit Go.AM
set_option linter.unusedVariables false
set_option linter.unusedSimpArgs false
theorem own : ownKnob Try.prog.godebug = none := by kernel_rfl
theorem laidOut : laidOutB Try.prog = true := by kernel_rfl
set_option maxRecDepth 100000 in
theorem lifted (os : Os) (started : os.Started) (H : Type) (enc : TypeId × Value → H) :
    ReturnsInHanded {} Try.checked os 5 .any (Rows.scheduleOrderIsIrrelevantSpec.pre6 enc Try.prog Try.f5 Rows.scheduleOrderIsIrrelevantRow.domain false) (Rows.scheduleOrderIsIrrelevantSpec.post enc Try.prog Try.f5 false true false false) := by
  refine returnsInHanded_of_change_sized (C := Try.checked) own started (by kernel_rfl) Try.func5
    (ChangeSpec.witness6 (enc := enc) (C := Try.checked) false ⟨#[], #[.agg #[.int .u64 0, .slice none 0 0, .slice none 0 0], .agg #[.slice none 0 0], .agg #[.int .u8 0, .int .u8 0]], []⟩ 8 (by kernel_rfl) (by kernel_rfl) (by kernel_rfl) (by kernel_rfl)) ?_
  intro W base args ds gs before hval0 hW hcnd hsz0 _
  have hval : ∀ (j : Nat) t v, Try.f5.params[j]? = some t → args[j]? = some v → Value.okWide Try.prog W .any base t v := hval0
  have hW' := hW
  obtain ⟨p, q, hA0, hV, rfl, hfz, hnd⟩ := hW
  have hA : DataW.TrodAll enc Try.prog W 0 (fun _ => true) true Try.f5.params.toList args.toList ds p := hA0
  rw [Try.params5] at hA hval
  obtain ⟨v0, vs0, d0, ds0, p0, q0, hargs, rfl, rfl, h0, r0⟩ := trodAll_cons hA
  obtain ⟨v1, vs1, d1, ds1, p1, q1, rfl, rfl, rfl, h1, r1⟩ := trodAll_cons r0
  obtain ⟨v2, vs2, d2, ds2, p2, q2, rfl, rfl, rfl, h2, r2⟩ := trodAll_cons r1
  obtain ⟨rfl, rfl, rfl⟩ := trodAll_nil r2
  obtain rfl : args = #[v0, v1, v2] := by cases args; simp_all
  obtain ⟨rfl, rfl⟩ := trodVars_none hV
  have k0 := h0
  have lt0 : ∀ x ∈ p0, x.block < W.heap.size := by obtain ⟨m, hm⟩ := k0; exact DataW.trod_lt m _ _ _ hm
  obtain ⟨c0, w0, e0⟩ := open_arg (G := gh0 W) (sh := shCirc) rfl ok_circ (hval 0 26 v0 rfl rfl) h0
  obtain ⟨p0, gs0, os0, z0⟩ := wt_circ w0
  rw [z0] at e0
  have k1 := h1
  have lt1 : ∀ x ∈ p1, x.block < W.heap.size := by obtain ⟨m, hm⟩ := k1; exact DataW.trod_lt m _ _ _ hm
  obtain ⟨c1, w1, e1⟩ := open_arg (G := gh0 W) (sh := shSched) rfl ok_sched (hval 1 29 v1 rfl rfl) h1
  obtain ⟨l1, z1⟩ := wt_sched w1
  rw [z1] at e1
  have k2 := h2
  have lt2 : ∀ x ∈ p2, x.block < W.heap.size := by obtain ⟨m, hm⟩ := k2; exact DataW.trod_lt m _ _ _ hm
  obtain ⟨c2, w2, e2⟩ := open_arg (G := gh0 W) (sh := shTwo) rfl ok_two (hval 2 35 v2 rfl rfl) h2
  obtain ⟨a2, b2, ha2, z2⟩ := wt_two w2
  rw [z2] at e2
  clear hA0 hval0 hsz0
  refine (law_calls (law_order p0 gs0 os0 l1 a2 b2 ha2) (vs := [v0, v1, v2]) (by simp only [RelL]; exact ⟨e0, ⟨e1, ⟨e2, trivial⟩⟩⟩)).mono fun e W' ⟨he, bel⟩ => ?_
  subst he
  exact ⟨_, rfl, _, _, _, [], _, [], hW', trodAll_mk1 (shut_bool Try.underlying4 _), (trodAll_cons_mk (Below.trod laidOut (by kernel_rfl) (of_decide_eq_true (by kernel_rfl)) k0 bel lt0) (trodAll_cons_mk (Below.trod laidOut (by kernel_rfl) (of_decide_eq_true (by kernel_rfl)) k1 bel lt1) (trodAll_cons_mk (Below.trod laidOut (by kernel_rfl) (of_decide_eq_true (by kernel_rfl)) k2 bel lt2) trodAll_mk0))), rfl, bel.frame _, fun h => by cases h⟩
theorem over : Rows.scheduleOrderIsIrrelevantRow.holds Try.pinned (OpenSpec.ofChange Rows.scheduleOrderIsIrrelevantSpec) :=
  OpenClaim.holds_of_wide 5 Try.f5 rfl rfl rfl rfl rfl rfl rfl ⟨rfl, rfl, rfl, rfl, rfl⟩ rfl rfl rfl rfl rfl (by kernel_rfl) Try.func5 (by kernel_rfl)
    (of_decide_eq_true (by kernel_rfl)) (by unfold Func.isWrapper; first | (rw [if_pos (by decide +kernel)]; kernel_rfl) | (rw [if_neg (by decide +kernel)]; exact ⟨rfl, rfl⟩))
    (fun os started H enc _ => lifted os started H enc)
theorem proved : Rows.ScheduleOrderIsIrrelevantSaid := over
#print axioms proved
end Go.Proofs.Ytmljoaiedihoiaa.scheduleOrderIsIrrelevant
namespace Go.Proofs.Ytmljoaiedihoiaa
/-- The row, under a short name, for the claim. -/
theorem scheduleOrderIsIrrelevant_holds : Rows.ScheduleOrderIsIrrelevantSaid := scheduleOrderIsIrrelevant.proved
end Go.Proofs.Ytmljoaiedihoiaa
