/- The law ScheduleNewMatchesReference. -/
import Derived.Test.YtmljoaiedihoiaaDoorD15
import Derived.Test.YtmljoaiedihoiaaDoorP7
namespace Go.AM
set_option linter.unusedVariables false
set_option linter.unusedSimpArgs false
open Go Go.RowKit Go.Proofs

theorem small_to {p : Int} {gs : List Gate} {os : List Int} {m : Nat} (h : smallC p gs os m = true) (hm : m < 1000000) : Small gs.length ∧ opsOk gs ∧ Small os.length ∧ gs.length ≤ m := by
  simp only [smallC, circOk, Bool.and_eq_true, decide_eq_true_eq] at h
  obtain ⟨⟨h1, h2⟩, ⟨⟨⟨_, _⟩, _⟩, h3⟩, _⟩ := h
  exact ⟨Small.mk (by omega), opsOk_of h3, Small.mk (by omega), by omega⟩

theorem law_new (p : Int) (gs : List Gate) (os : List Int) : Pure Tryd.prog 3 [circA p gs os] (ab true) := by
  refine pure_of Tryd.func3 rfl Tryd.ntmps3 (by simp) fun F n hF hn hn0 => ?_
  unfold circA
  repeat' (first
    | (refine sw_seq ?_) | (refine sw_block ?_) | (refine sw_skip ?_) | (refine sw_ret ?_) | (refine sw_exit ?_)
    | (refine n_then ?_) | (refine r_then ?_) | (refine e_then ?_) | (refine n_block ?_) | (refine r_block ?_) | (refine e_block ?_) | (refine o_block rfl ?_)
    | (refine sw_run (by simp [-getElem?_pos, List.getElem?_cons_zero, List.getElem?_cons_succ, ]; exact Is.mk _) ?_)
    | (refine sw_true (by simp [-getElem?_pos, List.getElem?_cons_zero, List.getElem?_cons_succ, ]; exact Is.mk _) ?_) | (refine sw_false (by simp [-getElem?_pos, List.getElem?_cons_zero, List.getElem?_cons_succ, ]; exact Is.mk _) ?_)
    | (refine sw_yes (by simp; exact Is.mk _) (by assumption) ?_)
    | (refine sw_no (by simp; exact Is.mk _) (by assumption) ?_)
    | (refine sw_if (by simp; exact Is.mk _) (fun _ => ?_) (fun _ => ?_)))
  refine sw_ss ?_
  repeat (refine ss_op rfl (by simp [-getElem?_pos, List.getElem?_cons_zero, List.getElem?_cons_succ, ]; exact Is.mk _) ?_)
  refine ss_pure rfl rfl rfl (by simp [-getElem?_pos, List.getElem?_cons_zero, List.getElem?_cons_succ]; exact Is.mk _) (by kernel_rfl) (awake_spec) ?_
  refine ss_all (by simp [-getElem?_pos, List.getElem?_cons_zero, List.getElem?_cons_succ, ]; exact Is.mk _) ?_
  repeat' (first
    | (refine sw_seq ?_) | (refine sw_block ?_) | (refine sw_skip ?_) | (refine sw_ret ?_) | (refine sw_exit ?_)
    | (refine n_then ?_) | (refine r_then ?_) | (refine e_then ?_) | (refine n_block ?_) | (refine r_block ?_) | (refine e_block ?_) | (refine o_block rfl ?_)
    | (refine sw_run (by simp [-getElem?_pos, List.getElem?_cons_zero, List.getElem?_cons_succ, ]; exact Is.mk _) ?_)
    | (refine sw_true (by simp [-getElem?_pos, List.getElem?_cons_zero, List.getElem?_cons_succ, ]; exact Is.mk _) ?_) | (refine sw_false (by simp [-getElem?_pos, List.getElem?_cons_zero, List.getElem?_cons_succ, ]; exact Is.mk _) ?_)
    | (refine sw_yes (by simp; exact Is.mk _) (by assumption) ?_)
    | (refine sw_no (by simp; exact Is.mk _) (by assumption) ?_)
    | (refine sw_if (by simp; exact Is.mk _) (fun _ => ?_) (fun _ => ?_)))
  refine sw_ss ?_
  repeat (refine ss_op rfl (by simp [-getElem?_pos, List.getElem?_cons_zero, List.getElem?_cons_succ, ]; exact Is.mk _) ?_)
  refine ss_pure rfl rfl rfl (by simp [-getElem?_pos, List.getElem?_cons_zero, List.getElem?_cons_succ]; exact Is.mk _) (by kernel_rfl) (small_spec p gs os 300) ?_
  cases h1 : smallC p gs os 300
  · refine ss_all (by simp [-getElem?_pos, List.getElem?_cons_zero, List.getElem?_cons_succ, ]; exact Is.mk _) ?_
    repeat' (first
      | (refine sw_seq ?_) | (refine sw_block ?_) | (refine sw_skip ?_) | (refine sw_ret ?_) | (refine sw_exit ?_)
      | (refine n_then ?_) | (refine r_then ?_) | (refine e_then ?_) | (refine n_block ?_) | (refine r_block ?_) | (refine e_block ?_) | (refine o_block rfl ?_)
      | (refine sw_run (by simp [-getElem?_pos, List.getElem?_cons_zero, List.getElem?_cons_succ, ]; exact Is.mk _) ?_)
      | (refine sw_true (by simp [-getElem?_pos, List.getElem?_cons_zero, List.getElem?_cons_succ, ]; exact Is.mk _) ?_) | (refine sw_false (by simp [-getElem?_pos, List.getElem?_cons_zero, List.getElem?_cons_succ, ]; exact Is.mk _) ?_)
      | (refine sw_yes (by simp; exact Is.mk _) (by assumption) ?_)
      | (refine sw_no (by simp; exact Is.mk _) (by assumption) ?_)
      | (refine sw_if (by simp; exact Is.mk _) (fun _ => ?_) (fun _ => ?_)))
    exact end_val (by simp; exact Is.mk _) (by simp [hn0, hn]) ⟨rfl, rfl⟩
  · obtain ⟨hgs, hops, _, hg300⟩ := small_to (m := 300) h1 (by omega)
    have hk6 := small_kinds h1
    have hdep := depsOk_of hops hgs
    have hln := newS_length hdep
    have hns : Small (newS gs).length := Small.mk (by omega)
    have hsel : ∀ (gs : List Gate) (dp : List Int) (d i : Nat), (selFrom dp d i gs).length ≤ gs.length := by
      intro gs dp d
      induction gs with
      | nil => intro i; simp [selFrom]
      | cons g gs ih => intro i; have := ih (i + 1); simp only [selFrom]; split <;> simp <;> omega
    have hall : ∀ x ∈ newS gs, Small x.length := fun x hx => by
      rw [newS_eq hops hgs, List.mem_map] at hx
      obtain ⟨d, _, rfl⟩ := hx
      have := hsel gs (dep gs) (d + 1) 0
      exact Small.mk (by omega)
    have hsame := same_spec (newS gs) (newS gs) hns hall
    have hvalid := valid_spec p gs os (newS gs) hgs hops hns hall
    rw [new_valid hops hgs] at hvalid
    have hnl : (newS gs).length = mostFrom (dep gs) 0 gs := by rw [newS_eq hops hgs]; simp
    refine ss_all (by simp [-getElem?_pos, List.getElem?_cons_zero, List.getElem?_cons_succ, ]; exact Is.mk _) ?_
    repeat' (first
      | (refine sw_seq ?_) | (refine sw_block ?_) | (refine sw_skip ?_) | (refine sw_ret ?_) | (refine sw_exit ?_)
      | (refine n_then ?_) | (refine r_then ?_) | (refine e_then ?_) | (refine n_block ?_) | (refine r_block ?_) | (refine e_block ?_) | (refine o_block rfl ?_)
      | (refine sw_run (by simp [-getElem?_pos, List.getElem?_cons_zero, List.getElem?_cons_succ, ]; exact Is.mk _) ?_)
      | (refine sw_true (by simp [-getElem?_pos, List.getElem?_cons_zero, List.getElem?_cons_succ, ]; exact Is.mk _) ?_) | (refine sw_false (by simp [-getElem?_pos, List.getElem?_cons_zero, List.getElem?_cons_succ, ]; exact Is.mk _) ?_)
      | (refine sw_yes (by simp; exact Is.mk _) (by assumption) ?_)
      | (refine sw_no (by simp; exact Is.mk _) (by assumption) ?_)
      | (refine sw_if (by simp; exact Is.mk _) (fun _ => ?_) (fun _ => ?_)))
    refine sw_ss ?_
    repeat (refine ss_op rfl (by simp [-getElem?_pos, List.getElem?_cons_zero, List.getElem?_cons_succ, ]; exact Is.mk _) ?_)
    refine ss_pure rfl rfl rfl (by simp [-getElem?_pos, List.getElem?_cons_zero, List.getElem?_cons_succ]; exact Is.mk _) (by kernel_rfl) (new_spec p gs os hgs hops hdep) ?_
    refine ss_all (by simp [-getElem?_pos, List.getElem?_cons_zero, List.getElem?_cons_succ, ]; exact Is.mk _) ?_
    repeat' (first
      | (refine sw_seq ?_) | (refine sw_block ?_) | (refine sw_skip ?_) | (refine sw_ret ?_) | (refine sw_exit ?_)
      | (refine n_then ?_) | (refine r_then ?_) | (refine e_then ?_) | (refine n_block ?_) | (refine r_block ?_) | (refine e_block ?_) | (refine o_block rfl ?_)
      | (refine sw_run (by simp [-getElem?_pos, List.getElem?_cons_zero, List.getElem?_cons_succ, ]; exact Is.mk _) ?_)
      | (refine sw_true (by simp [-getElem?_pos, List.getElem?_cons_zero, List.getElem?_cons_succ, ]; exact Is.mk _) ?_) | (refine sw_false (by simp [-getElem?_pos, List.getElem?_cons_zero, List.getElem?_cons_succ, ]; exact Is.mk _) ?_)
      | (refine sw_yes (by simp; exact Is.mk _) (by assumption) ?_)
      | (refine sw_no (by simp; exact Is.mk _) (by assumption) ?_)
      | (refine sw_if (by simp; exact Is.mk _) (fun _ => ?_) (fun _ => ?_)))
    refine sw_draw (us := [(0,2),(10,14),(11,14),(12,14)]) mixed (by kernel_rfl) (by kernel_rfl) ?_
    iterate 2 refine ds_op rfl (by simp; exact Is.mk _) ?_
    refine ds_pure_g rfl (by simp; exact Is.mk _) rfl (by simp; exact Is.mk _) (by kernel_rfl) (rnew_spec p gs os hgs hops) ?_
    refine ds_pure_g rfl (by simp; exact Is.mk _) rfl (by simp; exact Is.mk _) (by kernel_rfl) hsame ?_
    iterate 3 refine ds_op rfl (by simp; exact Is.mk _) ?_
    refine ds_pure_g rfl (by simp; exact Is.mk _) rfl (by simp; exact Is.mk _) (by kernel_rfl) hvalid ?_
    iterate 6 refine ds_op rfl (by simp; exact Is.mk _) ?_
    refine ds_pure_g rfl (by simp; exact Is.mk _) rfl (by simp; exact Is.mk _) (by kernel_rfl) (cdepth_spec p gs os hgs hops hk6) ?_
    refine ds_all (by simp [hnl]; exact Is.mk _) (disAll_quiet (by simp)) ?_
    repeat' (first
      | (refine sw_seq ?_) | (refine sw_block ?_) | (refine sw_skip ?_) | (refine sw_ret ?_) | (refine sw_exit ?_)
      | (refine n_then ?_) | (refine r_then ?_) | (refine e_then ?_) | (refine n_block ?_) | (refine r_block ?_) | (refine e_block ?_) | (refine o_block rfl ?_)
      | (refine sw_run (by simp [-getElem?_pos, List.getElem?_cons_zero, List.getElem?_cons_succ, ]; exact Is.mk _) ?_)
      | (refine sw_true (by simp [-getElem?_pos, List.getElem?_cons_zero, List.getElem?_cons_succ, ]; exact Is.mk _) ?_) | (refine sw_false (by simp [-getElem?_pos, List.getElem?_cons_zero, List.getElem?_cons_succ, ]; exact Is.mk _) ?_)
      | (refine sw_yes (by simp; exact Is.mk _) (by assumption) ?_)
      | (refine sw_no (by simp; exact Is.mk _) (by assumption) ?_)
      | (refine sw_if (by simp; exact Is.mk _) (fun _ => ?_) (fun _ => ?_)))
    exact end_val (by simp; exact Is.mk _) (by simp [hn0, hn]) ⟨rfl, by simp⟩

def shGate : Sh := .agg [.int .i64, .int .i64, .int .i64, .int .i64, .int .u64]
def shCirc : Sh := .agg [.int .u64, .sl 5 shGate, .sl 1 (.int .i64)]
theorem wt_ints {c : List PV} (h : Wt (.sl 1 (.int .i64)) c) : ∃ l, c = [.sl 1 (ints l)] := by
  simp only [Wt] at h
  obtain ⟨es, rfl, h⟩ := h
  obtain ⟨l, rfl, _⟩ := map_of (f := fun n => [pi n]) (R := fun _ => True) (es := es) fun x hx => by obtain ⟨n, h1, _⟩ := h x hx; exact ⟨n, trivial, h1⟩
  exact ⟨l, rfl⟩
theorem wt_gate {c : List PV} (h : Wt shGate c) : ∃ g : Gate, c = gateC g := by
  simp only [shGate, Wt, WtL] at h
  obtain ⟨_, _, rfl, ⟨k, rfl, _⟩, _, _, rfl, ⟨f, rfl, _⟩, _, _, rfl, ⟨a, rfl, _⟩, _, _, rfl, ⟨b, rfl, _⟩, _, _, rfl, ⟨w, rfl, _⟩, rfl⟩ := h
  exact ⟨⟨k, f, a, b, w⟩, rfl⟩
theorem wt_circ {c : List PV} (h : Wt shCirc c) : ∃ p gs os, argOf shCirc c = circA p gs os := by
  simp only [shCirc, Wt, WtL] at h
  obtain ⟨_, _, rfl, ⟨p, rfl, _⟩, _, _, rfl, ⟨es, rfl, h1⟩, x, _, rfl, h2, rfl⟩ := h
  obtain ⟨gs, rfl, _⟩ := map_of (f := gateC) (R := fun _ => True) (es := es) fun x hx => by obtain ⟨g, rfl⟩ := wt_gate (h1 x hx); exact ⟨g, trivial, rfl⟩
  obtain ⟨os, rfl⟩ := wt_ints (c := x) (by simp only [Wt]; exact h2)
  exact ⟨p, gs, os, rfl⟩
theorem ok_circ : shOk Tryd.prog shCirc 26 = true := by kernel_rfl

/-! ### What the row tells of the variable -/

def shForm : Sh := .agg [.str, .int .i64, .bool, .bool, .bool, .bool, .bool]
def shForms : Sh := .agg [shForm, shForm, shForm, shForm, shForm, shForm, shForm]
theorem ok_forms : shOk Tryd.prog shForms 92 = true := by kernel_rfl

end Go.AM
