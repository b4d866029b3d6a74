/- Run and RunConcurrent on arguments that are not accepted. -/
import Derived.Test.YtngghimofbefjaaGreatDoorG26
namespace Go.AM
set_option linter.unusedVariables false
set_option linter.unusedSimpArgs false
open Go Go.RowKit Go.Proofs

@[simp] theorem tzRes : tZero Tryz.prog 44 = some [.slice none 0 0, .slice none 0 0, .slice none 0 0, .slice none 0 0, .int .i64 0] := by kernel_rfl
@[simp] theorem tsRes : tStruct Tryz.prog 44 = some [(0, 1), (1, 1), (2, 1), (3, 1), (4, 1)] := by kernel_rfl
abbrev nilZ : AV := .p (.v (.slice none 0 0))
abbrev resZ : AV := .agg [nilZ, nilZ, nilZ, nilZ, ai 0]
abbrev hireA (f : Nat) : AV := .p (.v (.func (.func f) #[] #[]))

set_option maxHeartbeats 1000000 in
theorem work_err (w : Scen) (p : Int) (gs : List Gate) (os : List Int) (xs : List (List Int)) (f : Nat) (hl : Small gs.length) (hx : Small xs.length) (hd : Small w.devs.length) (ht : Small w.tapes.length) (hts : ∀ x ∈ w.tapes, Small x.length) (hk' : ∀ g ∈ gs, 0 ≤ g.k) (e : Int) (he : checkV w p gs os xs = e) (hne : ¬ e = 0) :
    Pure Tryz.prog 24 [scenA w, circA p gs os, .p (.sl 1 (wrows xs)), hireA f] (.tup [resZ, ai e]) := by
  refine pure_of Tryz.func24 rfl Tryz.ntmps24 (by simp) fun F n hF hn hn0 => ?_
  unfold circA
  repeat' (first
    | (refine sw_seq ?_) | (refine sw_block ?_) | (refine sw_skip ?_)
    | (refine n_then ?_) | (refine r_then ?_) | (refine e_then ?_) | (refine n_block ?_) | (refine r_block ?_) | (refine e_block ?_) | (refine o_block rfl ?_)
    | (refine sw_run (by simp [-getElem?_pos, List.getElem?_cons_zero, List.getElem?_cons_succ, ]; exact Is.mk _) ?_) | fail)
  refine sw_ss ?_
  repeat (refine ss_op rfl (by simp [-getElem?_pos, List.getElem?_cons_zero, List.getElem?_cons_succ, ]; exact Is.mk _) ?_)
  refine ss_pure rfl rfl rfl (by simp [-getElem?_pos, List.getElem?_cons_zero, List.getElem?_cons_succ]; exact Is.mk _) (by kernel_rfl) (fcheck_spec w p gs os xs hl hx hd ht hts hk') ?_
  rw [he]
  refine ss_all (by simp [-getElem?_pos, List.getElem?_cons_zero, List.getElem?_cons_succ, ]; exact Is.mk _) ?_
  repeat' (first
    | (refine sw_seq ?_) | (refine sw_block ?_) | (refine sw_skip ?_) | (refine sw_ret ?_) | (refine sw_exit ?_)
    | (refine n_then ?_) | (refine r_then ?_) | (refine e_then ?_) | (refine n_block ?_) | (refine r_block ?_) | (refine e_block ?_) | (refine o_block rfl ?_)
    | (refine sw_run (by simp [-getElem?_pos, List.getElem?_cons_zero, List.getElem?_cons_succ, hne]; exact Is.mk _) ?_)
    | (refine sw_true (by simp [-getElem?_pos, List.getElem?_cons_zero, List.getElem?_cons_succ, hne]; exact Is.mk _) ?_) | (refine sw_false (by simp [-getElem?_pos, List.getElem?_cons_zero, List.getElem?_cons_succ, hne]; exact Is.mk _) ?_)
    | (refine sw_yes (by simp; exact Is.mk _) (by assumption) ?_)
    | (refine sw_no (by simp; exact Is.mk _) (by assumption) ?_)
    | (refine sw_if (by simp; exact Is.mk _) (fun _ => ?_) (fun _ => ?_)))
  exact end_ret (by simp; exact Is.mk _) (fun _ => weak_plain (by simp [conv, convL]) (by simp [hn, hn0, Nat.add_assoc])) ⟨rfl, by simp [pv]⟩

set_option maxHeartbeats 1000000 in
theorem run_err (w : Scen) (p : Int) (gs : List Gate) (os : List Int) (xs : List (List Int)) (hl : Small gs.length) (hx : Small xs.length) (hd : Small w.devs.length) (ht : Small w.tapes.length) (hts : ∀ x ∈ w.tapes, Small x.length) (hk' : ∀ g ∈ gs, 0 ≤ g.k) (e : Int) (he : checkV w p gs os xs = e) (hne : ¬ e = 0) :
    Pure Tryz.prog 8 [scenA w, circA p gs os, .p (.sl 1 (wrows xs))] (.tup [resZ, ai e]) := by
  refine pure_of Tryz.func8 rfl Tryz.ntmps8 (by simp) fun F n hF hn hn0 => ?_
  unfold circA
  repeat' (first
    | (refine sw_seq ?_) | (refine sw_block ?_) | (refine sw_skip ?_)
    | (refine n_then ?_) | (refine r_then ?_) | (refine e_then ?_) | (refine n_block ?_) | (refine r_block ?_) | (refine e_block ?_) | (refine o_block rfl ?_)
    | (refine sw_run (by simp [-getElem?_pos, List.getElem?_cons_zero, List.getElem?_cons_succ, ]; exact Is.mk _) ?_) | fail)
  refine sw_ss ?_
  repeat (refine ss_op rfl (by simp [-getElem?_pos, List.getElem?_cons_zero, List.getElem?_cons_succ, ]; exact Is.mk _) ?_)
  refine ss_pure rfl rfl rfl (by simp [-getElem?_pos, List.getElem?_cons_zero, List.getElem?_cons_succ]; exact Is.mk _) (by kernel_rfl) (work_err w p gs os xs 25 hl hx hd ht hts hk' e he hne) ?_
  refine ss_all (by simp [-getElem?_pos, List.getElem?_cons_zero, List.getElem?_cons_succ, ]; exact Is.mk _) ?_
  repeat' (first
    | (refine sw_seq ?_) | (refine sw_block ?_) | (refine sw_skip ?_) | (refine sw_ret ?_) | (refine sw_exit ?_)
    | (refine n_then ?_) | (refine r_then ?_) | (refine e_then ?_) | (refine n_block ?_) | (refine r_block ?_) | (refine e_block ?_) | (refine o_block rfl ?_)
    | (refine sw_run (by simp [-getElem?_pos, List.getElem?_cons_zero, List.getElem?_cons_succ, hne]; exact Is.mk _) ?_)
    | (refine sw_true (by simp [-getElem?_pos, List.getElem?_cons_zero, List.getElem?_cons_succ, hne]; exact Is.mk _) ?_) | (refine sw_false (by simp [-getElem?_pos, List.getElem?_cons_zero, List.getElem?_cons_succ, hne]; exact Is.mk _) ?_)
    | (refine sw_yes (by simp; exact Is.mk _) (by assumption) ?_)
    | (refine sw_no (by simp; exact Is.mk _) (by assumption) ?_)
    | (refine sw_if (by simp; exact Is.mk _) (fun _ => ?_) (fun _ => ?_)))
  exact end_ret (by simp; exact Is.mk _) (fun _ => weak_plain (by simp [conv, convL]) (by simp [hn, hn0, Nat.add_assoc])) ⟨rfl, by simp [pv]⟩

set_option maxHeartbeats 1000000 in
theorem runc_err (w : Scen) (p : Int) (gs : List Gate) (os : List Int) (xs : List (List Int)) (hl : Small gs.length) (hx : Small xs.length) (hd : Small w.devs.length) (ht : Small w.tapes.length) (hts : ∀ x ∈ w.tapes, Small x.length) (hk' : ∀ g ∈ gs, 0 ≤ g.k) (e : Int) (he : checkV w p gs os xs = e) (hne : ¬ e = 0) :
    Pure Tryz.prog 9 [scenA w, circA p gs os, .p (.sl 1 (wrows xs))] (.tup [resZ, ai e]) := by
  refine pure_of Tryz.func9 rfl Tryz.ntmps9 (by simp) fun F n hF hn hn0 => ?_
  unfold circA
  repeat' (first
    | (refine sw_seq ?_) | (refine sw_block ?_) | (refine sw_skip ?_)
    | (refine n_then ?_) | (refine r_then ?_) | (refine e_then ?_) | (refine n_block ?_) | (refine r_block ?_) | (refine e_block ?_) | (refine o_block rfl ?_)
    | (refine sw_run (by simp [-getElem?_pos, List.getElem?_cons_zero, List.getElem?_cons_succ, ]; exact Is.mk _) ?_) | fail)
  refine sw_ss ?_
  repeat (refine ss_op rfl (by simp [-getElem?_pos, List.getElem?_cons_zero, List.getElem?_cons_succ, ]; exact Is.mk _) ?_)
  refine ss_pure rfl rfl rfl (by simp [-getElem?_pos, List.getElem?_cons_zero, List.getElem?_cons_succ]; exact Is.mk _) (by kernel_rfl) (work_err w p gs os xs 26 hl hx hd ht hts hk' e he hne) ?_
  refine ss_all (by simp [-getElem?_pos, List.getElem?_cons_zero, List.getElem?_cons_succ, ]; exact Is.mk _) ?_
  repeat' (first
    | (refine sw_seq ?_) | (refine sw_block ?_) | (refine sw_skip ?_) | (refine sw_ret ?_) | (refine sw_exit ?_)
    | (refine n_then ?_) | (refine r_then ?_) | (refine e_then ?_) | (refine n_block ?_) | (refine r_block ?_) | (refine e_block ?_) | (refine o_block rfl ?_)
    | (refine sw_run (by simp [-getElem?_pos, List.getElem?_cons_zero, List.getElem?_cons_succ, hne]; exact Is.mk _) ?_)
    | (refine sw_true (by simp [-getElem?_pos, List.getElem?_cons_zero, List.getElem?_cons_succ, hne]; exact Is.mk _) ?_) | (refine sw_false (by simp [-getElem?_pos, List.getElem?_cons_zero, List.getElem?_cons_succ, hne]; exact Is.mk _) ?_)
    | (refine sw_yes (by simp; exact Is.mk _) (by assumption) ?_)
    | (refine sw_no (by simp; exact Is.mk _) (by assumption) ?_)
    | (refine sw_if (by simp; exact Is.mk _) (fun _ => ?_) (fun _ => ?_)))
  exact end_ret (by simp; exact Is.mk _) (fun _ => weak_plain (by simp [conv, convL]) (by simp [hn, hn0, Nat.add_assoc])) ⟨rfl, by simp [pv]⟩

end Go.AM
