/- The sides of a gate; a gate of no form. -/
import Derived.Test.YtngghimofbefjaaGreatDoorG18
namespace Go.AM
set_option linter.unusedVariables false
set_option linter.unusedSimpArgs false
open Go Go.RowKit Go.Proofs

def sideOk (has : Bool) (x at_ : Int) : Bool := if has then decide (0 ≤ x) && decide (x < at_) else decide (x = 0)

theorem side_spec (has : Bool) (x at_ : Int) (id : Nat) : Does Tryz.prog 155 [ab has, ai x, .ptr id 0 0 0] [(id, cellB at_)] [] (ab (sideOk has x at_)) := by
  refine does_of Tryz.func155 rfl Tryz.ntmps155 (by simp) fun F n hF hn hn0 hrd => ?_
  have hid : F id = some (cellB at_) := hrd _ (List.mem_cons_self ..)
  unfold sideOk
  cases has
  · by_cases h1 : x = 0
    · repeat' (first
        | (refine sw_seq ?_) | (refine sw_block ?_) | (refine sw_skip ?_) | (refine sw_ret ?_) | (refine sw_exit ?_)
        | (refine n_then ?_) | (refine r_then ?_) | (refine e_then ?_) | (refine n_block ?_) | (refine r_block ?_) | (refine e_block ?_) | (refine o_block rfl ?_)
        | (refine sw_run (by simp [-getElem?_pos, List.getElem?_cons_zero, List.getElem?_cons_succ, h1, hid]; exact Is.mk _) ?_)
        | (refine sw_true (by simp [-getElem?_pos, List.getElem?_cons_zero, List.getElem?_cons_succ, h1, hid]; exact Is.mk _) ?_) | (refine sw_false (by simp [-getElem?_pos, List.getElem?_cons_zero, List.getElem?_cons_succ, h1, hid]; exact Is.mk _) ?_)
        | (refine sw_yes (by simp; exact Is.mk _) (by assumption) ?_)
        | (refine sw_no (by simp; exact Is.mk _) (by assumption) ?_)
        | (refine sw_if (by simp; exact Is.mk _) (fun _ => ?_) (fun _ => ?_)))
      exact end_val (by simp; exact Is.mk _) (by simp [hn0, hn]) ⟨rfl, by simp [h1]⟩
    · repeat' (first
        | (refine sw_seq ?_) | (refine sw_block ?_) | (refine sw_skip ?_) | (refine sw_ret ?_) | (refine sw_exit ?_)
        | (refine n_then ?_) | (refine r_then ?_) | (refine e_then ?_) | (refine n_block ?_) | (refine r_block ?_) | (refine e_block ?_) | (refine o_block rfl ?_)
        | (refine sw_run (by simp [-getElem?_pos, List.getElem?_cons_zero, List.getElem?_cons_succ, h1, hid]; exact Is.mk _) ?_)
        | (refine sw_true (by simp [-getElem?_pos, List.getElem?_cons_zero, List.getElem?_cons_succ, h1, hid]; exact Is.mk _) ?_) | (refine sw_false (by simp [-getElem?_pos, List.getElem?_cons_zero, List.getElem?_cons_succ, h1, hid]; exact Is.mk _) ?_)
        | (refine sw_yes (by simp; exact Is.mk _) (by assumption) ?_)
        | (refine sw_no (by simp; exact Is.mk _) (by assumption) ?_)
        | (refine sw_if (by simp; exact Is.mk _) (fun _ => ?_) (fun _ => ?_)))
      exact end_val (by simp; exact Is.mk _) (by simp [hn0, hn]) ⟨rfl, by simp [h1]⟩
  · by_cases h1 : 0 ≤ x
    · by_cases h2 : x < at_
      · repeat' (first
          | (refine sw_seq ?_) | (refine sw_block ?_) | (refine sw_skip ?_) | (refine sw_ret ?_) | (refine sw_exit ?_)
          | (refine n_then ?_) | (refine r_then ?_) | (refine e_then ?_) | (refine n_block ?_) | (refine r_block ?_) | (refine e_block ?_) | (refine o_block rfl ?_)
          | (refine sw_run (by simp [-getElem?_pos, List.getElem?_cons_zero, List.getElem?_cons_succ, h1, h2, hid]; exact Is.mk _) ?_)
          | (refine sw_true (by simp [-getElem?_pos, List.getElem?_cons_zero, List.getElem?_cons_succ, h1, h2, hid]; exact Is.mk _) ?_) | (refine sw_false (by simp [-getElem?_pos, List.getElem?_cons_zero, List.getElem?_cons_succ, h1, h2, hid]; exact Is.mk _) ?_)
          | (refine sw_yes (by simp; exact Is.mk _) (by assumption) ?_)
          | (refine sw_no (by simp; exact Is.mk _) (by assumption) ?_)
          | (refine sw_if (by simp; exact Is.mk _) (fun _ => ?_) (fun _ => ?_)))
        exact end_val (by simp; exact Is.mk _) (by simp [hn0, hn]) ⟨rfl, by simp [h1, h2]⟩
      · repeat' (first
          | (refine sw_seq ?_) | (refine sw_block ?_) | (refine sw_skip ?_) | (refine sw_ret ?_) | (refine sw_exit ?_)
          | (refine n_then ?_) | (refine r_then ?_) | (refine e_then ?_) | (refine n_block ?_) | (refine r_block ?_) | (refine e_block ?_) | (refine o_block rfl ?_)
          | (refine sw_run (by simp [-getElem?_pos, List.getElem?_cons_zero, List.getElem?_cons_succ, h1, h2, hid]; exact Is.mk _) ?_)
          | (refine sw_true (by simp [-getElem?_pos, List.getElem?_cons_zero, List.getElem?_cons_succ, h1, h2, hid]; exact Is.mk _) ?_) | (refine sw_false (by simp [-getElem?_pos, List.getElem?_cons_zero, List.getElem?_cons_succ, h1, h2, hid]; exact Is.mk _) ?_)
          | (refine sw_yes (by simp; exact Is.mk _) (by assumption) ?_)
          | (refine sw_no (by simp; exact Is.mk _) (by assumption) ?_)
          | (refine sw_if (by simp; exact Is.mk _) (fun _ => ?_) (fun _ => ?_)))
        exact end_val (by simp; exact Is.mk _) (by simp [hn0, hn]) ⟨rfl, by simp [h1, h2]⟩
    · repeat' (first
        | (refine sw_seq ?_) | (refine sw_block ?_) | (refine sw_skip ?_) | (refine sw_ret ?_) | (refine sw_exit ?_)
        | (refine n_then ?_) | (refine r_then ?_) | (refine e_then ?_) | (refine n_block ?_) | (refine r_block ?_) | (refine e_block ?_) | (refine o_block rfl ?_)
        | (refine sw_run (by simp [-getElem?_pos, List.getElem?_cons_zero, List.getElem?_cons_succ, h1, hid]; exact Is.mk _) ?_)
        | (refine sw_true (by simp [-getElem?_pos, List.getElem?_cons_zero, List.getElem?_cons_succ, h1, hid]; exact Is.mk _) ?_) | (refine sw_false (by simp [-getElem?_pos, List.getElem?_cons_zero, List.getElem?_cons_succ, h1, hid]; exact Is.mk _) ?_)
        | (refine sw_yes (by simp; exact Is.mk _) (by assumption) ?_)
        | (refine sw_no (by simp; exact Is.mk _) (by assumption) ?_)
        | (refine sw_if (by simp; exact Is.mk _) (fun _ => ?_) (fun _ => ?_)))
      exact end_val (by simp; exact Is.mk _) (by simp [hn0, hn]) ⟨rfl, by simp [h1]⟩

end Go.AM
