/- The law ScheduleValidMatchesReference. -/
import Derived.Test.YtmljoaiedihoiaaS11
namespace Go.AM
set_option linter.unusedVariables false
set_option linter.unusedSimpArgs false
open Go Go.RowKit Go.Proofs

@[simp] theorem teqBool : tEq Try.prog 4 = some (false, [(0, .b)]) := by kernel_rfl

theorem small_to {p : Int} {gs : List Gate} {os : List Int} {m : Nat} (h : smallC p gs os m = true) (hm : m < 1000000) : Small gs.length ∧ opsOk gs ∧ Small os.length ∧ gs.length ≤ m := by
  simp only [smallC, circOk, Bool.and_eq_true, decide_eq_true_eq] at h
  obtain ⟨⟨h1, h2⟩, ⟨⟨⟨_, _⟩, _⟩, h3⟩, _⟩ := h
  exact ⟨Small.mk (by omega), opsOk_of h3, Small.mk (by omega), by omega⟩
theorem fewL_to {q : Int} : ∀ {l : List (List Int)}, fewL q l = true → ∀ x ∈ l, (x.length : Int) ≤ q
  | [], _, x, hx => by simp at hx
  | y :: l, h, x, hx => by
    simp only [fewL, Bool.and_eq_true, decide_eq_true_eq] at h
    simp only [List.mem_cons] at hx
    rcases hx with rfl | hx
    · exact h.1
    · exact fewL_to h.2 x hx
theorem few_to {l : List (List Int)} {m q : Int} (h : fewC l m q = true) (hm : m < 1000000) (hq : q < 1000000) : Small l.length ∧ ∀ x ∈ l, Small x.length := by
  simp only [fewC, Bool.and_eq_true, decide_eq_true_eq] at h
  exact ⟨Small.mk (by omega), fun x hx => Small.mk (by have := fewL_to h.2 x hx; omega)⟩

theorem law_valid (p : Int) (gs : List Gate) (os : List Int) (l : List (List Int)) : Pure Try.prog 3 [circA p gs os, schedA l] (ab true) := by
  refine pure_of Try.func3 rfl Try.ntmps3 (by simp) fun F n hF hn hn0 => ?_
  unfold circA schedA
  repeat' (first
    | (refine sw_seq ?_) | (refine sw_block ?_) | (refine sw_skip ?_) | (refine sw_ret ?_) | (refine sw_exit ?_)
    | (refine n_then ?_) | (refine r_then ?_) | (refine e_then ?_) | (refine n_block ?_) | (refine r_block ?_) | (refine e_block ?_) | (refine o_block rfl ?_)
    | (refine sw_run (by simp []; exact Is.mk _) ?_)
    | (refine sw_true (by simp []; exact Is.mk _) ?_) | (refine sw_false (by simp []; exact Is.mk _) ?_)
    | (refine sw_yes (by simp; exact Is.mk _) (by assumption) ?_)
    | (refine sw_no (by simp; exact Is.mk _) (by assumption) ?_)
    | (refine sw_if (by simp; exact Is.mk _) (fun _ => ?_) (fun _ => ?_)))
  refine sw_ss ?_
  repeat (refine ss_op rfl (by simp []; exact Is.mk _) ?_)
  refine ss_pure rfl rfl rfl (by simp; exact Is.mk _) (by kernel_rfl) (awake_spec) ?_
  refine ss_all (by simp []; exact Is.mk _) ?_
  repeat' (first
    | (refine sw_seq ?_) | (refine sw_block ?_) | (refine sw_skip ?_) | (refine sw_ret ?_) | (refine sw_exit ?_)
    | (refine n_then ?_) | (refine r_then ?_) | (refine e_then ?_) | (refine n_block ?_) | (refine r_block ?_) | (refine e_block ?_) | (refine o_block rfl ?_)
    | (refine sw_run (by simp []; exact Is.mk _) ?_)
    | (refine sw_true (by simp []; exact Is.mk _) ?_) | (refine sw_false (by simp []; exact Is.mk _) ?_)
    | (refine sw_yes (by simp; exact Is.mk _) (by assumption) ?_)
    | (refine sw_no (by simp; exact Is.mk _) (by assumption) ?_)
    | (refine sw_if (by simp; exact Is.mk _) (fun _ => ?_) (fun _ => ?_)))
  refine sw_ss ?_
  repeat (refine ss_op rfl (by simp []; exact Is.mk _) ?_)
  refine ss_pure rfl rfl rfl (by simp; exact Is.mk _) (by kernel_rfl) (small_spec p gs os 200) ?_
  by_cases h1 : smallC p gs os 200 = true
  · obtain ⟨hgs, hops, _, _⟩ := small_to (m := 200) h1 (by omega)
    rw [h1]
    repeat (refine ss_op rfl (by simp []; exact Is.mk _) ?_)
    refine ss_pure_g rfl (by simp []; exact Is.mk _) rfl (by simp; exact Is.mk _) (by kernel_rfl) (few_spec l 40 100 (by omega)) ?_
    by_cases h2 : fewC l 40 100 = true
    · obtain ⟨hl, hll⟩ := few_to h2 (by omega) (by omega)
      rw [h2]
      refine ss_all (by simp []; exact Is.mk _) ?_
      repeat' (first
        | (refine sw_seq ?_) | (refine sw_block ?_) | (refine sw_skip ?_) | (refine sw_ret ?_) | (refine sw_exit ?_)
        | (refine n_then ?_) | (refine r_then ?_) | (refine e_then ?_) | (refine n_block ?_) | (refine r_block ?_) | (refine e_block ?_) | (refine o_block rfl ?_)
        | (refine sw_run (by simp []; exact Is.mk _) ?_)
        | (refine sw_true (by simp []; exact Is.mk _) ?_) | (refine sw_false (by simp []; exact Is.mk _) ?_)
        | (refine sw_yes (by simp; exact Is.mk _) (by assumption) ?_)
        | (refine sw_no (by simp; exact Is.mk _) (by assumption) ?_)
        | (refine sw_if (by simp; exact Is.mk _) (fun _ => ?_) (fun _ => ?_)))
      refine sw_draw mixed (by kernel_rfl) rfl ?_
      iterate 2 refine ds_op rfl (by simp; exact Is.mk _) ?_
      refine ds_pure_g rfl (by simp; exact Is.mk _) rfl (by simp; exact Is.mk _) (by kernel_rfl) (valid_spec p gs os l hgs hops hl hll) ?_
      iterate 2 refine ds_op rfl (by simp; exact Is.mk _) ?_
      refine ds_pure_g rfl (by simp; exact Is.mk _) rfl (by simp; exact Is.mk _) (by kernel_rfl) (rvalid_spec p gs os l hgs hops hl hll) ?_
      refine ds_all (by simp; exact Is.mk _) (disAll_quiet (by simp)) ?_
      repeat' (first
        | (refine sw_seq ?_) | (refine sw_block ?_) | (refine sw_skip ?_) | (refine sw_ret ?_) | (refine sw_exit ?_)
        | (refine n_then ?_) | (refine r_then ?_) | (refine e_then ?_) | (refine n_block ?_) | (refine r_block ?_) | (refine e_block ?_) | (refine o_block rfl ?_)
        | (refine sw_run (by simp []; exact Is.mk _) ?_)
        | (refine sw_true (by simp []; exact Is.mk _) ?_) | (refine sw_false (by simp []; exact Is.mk _) ?_)
        | (refine sw_yes (by simp; exact Is.mk _) (by assumption) ?_)
        | (refine sw_no (by simp; exact Is.mk _) (by assumption) ?_)
        | (refine sw_if (by simp; exact Is.mk _) (fun _ => ?_) (fun _ => ?_)))
      exact end_val (by simp; exact Is.mk _) (by simp [hn0, hn]) ⟨rfl, by simp⟩
    · rw [show fewC l 40 100 = false by simpa using h2]
      refine ss_all (by simp []; exact Is.mk _) ?_
      repeat' (first
        | (refine sw_seq ?_) | (refine sw_block ?_) | (refine sw_skip ?_) | (refine sw_ret ?_) | (refine sw_exit ?_)
        | (refine n_then ?_) | (refine r_then ?_) | (refine e_then ?_) | (refine n_block ?_) | (refine r_block ?_) | (refine e_block ?_) | (refine o_block rfl ?_)
        | (refine sw_run (by simp []; exact Is.mk _) ?_)
        | (refine sw_true (by simp []; exact Is.mk _) ?_) | (refine sw_false (by simp []; exact Is.mk _) ?_)
        | (refine sw_yes (by simp; exact Is.mk _) (by assumption) ?_)
        | (refine sw_no (by simp; exact Is.mk _) (by assumption) ?_)
        | (refine sw_if (by simp; exact Is.mk _) (fun _ => ?_) (fun _ => ?_)))
      exact end_val (by simp; exact Is.mk _) (by simp [hn0, hn]) ⟨rfl, rfl⟩
  · rw [show smallC p gs os 200 = false by simpa using h1]
    refine ss_all (by simp []; exact Is.mk _) ?_
    repeat' (first
      | (refine sw_seq ?_) | (refine sw_block ?_) | (refine sw_skip ?_) | (refine sw_ret ?_) | (refine sw_exit ?_)
      | (refine n_then ?_) | (refine r_then ?_) | (refine e_then ?_) | (refine n_block ?_) | (refine r_block ?_) | (refine e_block ?_) | (refine o_block rfl ?_)
      | (refine sw_run (by simp []; exact Is.mk _) ?_)
      | (refine sw_true (by simp []; exact Is.mk _) ?_) | (refine sw_false (by simp []; exact Is.mk _) ?_)
      | (refine sw_yes (by simp; exact Is.mk _) (by assumption) ?_)
      | (refine sw_no (by simp; exact Is.mk _) (by assumption) ?_)
      | (refine sw_if (by simp; exact Is.mk _) (fun _ => ?_) (fun _ => ?_)))
    exact end_val (by simp; exact Is.mk _) (by simp [hn0, hn]) ⟨rfl, rfl⟩

/-! ### The arguments -/

def shGate : Sh := .agg [.int .i64, .int .i64, .int .i64, .int .i64, .int .u64]
def shCirc : Sh := .agg [.int .u64, .sl 5 shGate, .sl 1 (.int .i64)]
def shSched : Sh := .agg [.sl 1 (.sl 1 (.int .i64))]

theorem wt_int {k : IntKind} {c : List PV} (h : Wt (.int k) c) : ∃ n, c = [.v (.int k n)] := by simp only [Wt] at h; obtain ⟨n, h1, _⟩ := h; exact ⟨n, h1⟩
theorem wt_ints {c : List PV} (h : Wt (.sl 1 (.int .i64)) c) : ∃ l, c = [.sl 1 (ints l)] := by
  simp only [Wt] at h
  obtain ⟨es, rfl, h⟩ := h
  obtain ⟨l, rfl, _⟩ := map_of (f := fun n => [pi n]) (R := fun _ => True) (es := es) fun x hx => by obtain ⟨n, h1, _⟩ := h x hx; exact ⟨n, trivial, h1⟩
  exact ⟨l, rfl⟩
theorem wt_gate {c : List PV} (h : Wt shGate c) : ∃ g : Gate, c = gateC g := by
  simp only [shGate, Wt, WtL] at h
  obtain ⟨_, _, rfl, ⟨k, rfl, _⟩, _, _, rfl, ⟨f, rfl, _⟩, _, _, rfl, ⟨a, rfl, _⟩, _, _, rfl, ⟨b, rfl, _⟩, _, _, rfl, ⟨w, rfl, _⟩, rfl⟩ := h
  exact ⟨⟨k, f, a, b, w⟩, rfl⟩
theorem wt_circ {c : List PV} (h : Wt shCirc c) : ∃ p gs os, argOf shCirc c = circA p gs os := by
  simp only [shCirc, Wt, WtL] at h
  obtain ⟨_, _, rfl, ⟨p, rfl, _⟩, _, _, rfl, ⟨es, rfl, h1⟩, x, _, rfl, h2, rfl⟩ := h
  obtain ⟨gs, rfl, _⟩ := map_of (f := gateC) (R := fun _ => True) (es := es) fun x hx => by obtain ⟨g, rfl⟩ := wt_gate (h1 x hx); exact ⟨g, trivial, rfl⟩
  obtain ⟨os, rfl⟩ := wt_ints (c := x) (by simp only [Wt]; exact h2)
  exact ⟨p, gs, os, rfl⟩
theorem wt_sched {c : List PV} (h : Wt shSched c) : ∃ l, argOf shSched c = schedA l := by
  simp only [shSched, Wt, WtL] at h
  obtain ⟨_, _, rfl, ⟨es, rfl, h1⟩, rfl⟩ := h
  obtain ⟨l, rfl, _⟩ := map_of (f := fun x => [PV.sl 1 (ints x)]) (R := fun _ => True) (es := es) fun x hx => by
    obtain ⟨z, rfl⟩ := wt_ints (c := x) (by simp only [Wt]; exact h1 x hx)
    exact ⟨z, trivial, rfl⟩
  exact ⟨l, rfl⟩

theorem ok_circ : shOk Try.prog shCirc 26 = true := by kernel_rfl
theorem ok_sched : shOk Try.prog shSched 29 = true := by kernel_rfl

end Go.AM
