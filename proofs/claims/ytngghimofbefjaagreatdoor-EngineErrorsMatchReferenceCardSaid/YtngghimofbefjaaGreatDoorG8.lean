/- The program's deviations. -/
import Derived.Test.YtngghimofbefjaaGreatDoorG3
namespace Go.AM
set_option linter.unusedVariables false
set_option linter.unusedSimpArgs false
open Go Go.RowKit Go.Proofs

set_option maxHeartbeats 4000000 in
set_option maxRecDepth 8000 in
theorem flie3 (p n' t : Int) (d : Dev) (c12 : d.kind = 3) : Pure Tryz.prog 104 [parA p n' t, devA d] (ab (devOk n' d)) := by
  refine pure_of Tryz.func104 rfl Tryz.ntmps104 (by simp) fun F n hF hn hn0 => ?_
  unfold devOk
  by_cases c1 : 0 ≤ d.round
  · by_cases c2 : 0 ≤ d.at_
    · by_cases c3 : 0 ≤ d.src
      · by_cases c4 : 1 ≤ d.frm
        · by_cases c5 : d.frm ≤ n'
          · by_cases c6 : 0 ≤ d.to
            · by_cases c7 : d.to ≤ n'
              · have c8 : 1 ≤ d.kind := by omega
                have c9 : d.kind ≤ 4 := by omega
                by_cases c10 : 1 ≤ d.of_
                · have c13 : 0 ≤ d.of_ := by omega
                  by_cases c11 : d.of_ ≤ n'
                  · repeat' (first
                      | (refine sw_seq ?_) | (refine sw_block ?_) | (refine sw_skip ?_) | (refine sw_ret ?_) | (refine sw_exit ?_)
                      | (refine n_then ?_) | (refine r_then ?_) | (refine e_then ?_) | (refine n_block ?_) | (refine r_block ?_) | (refine e_block ?_) | (refine o_block rfl ?_)
                      | (refine sw_run (by simp [-getElem?_pos, List.getElem?_cons_zero, List.getElem?_cons_succ, c1, c2, c3, c4, c5, c6, c7, c8, c9, c10, c11, c12]; exact Is.mk _) ?_)
                      | (refine sw_true (by simp [-getElem?_pos, List.getElem?_cons_zero, List.getElem?_cons_succ, c1, c2, c3, c4, c5, c6, c7, c8, c9, c10, c11, c12]; exact Is.mk _) ?_) | (refine sw_false (by simp [-getElem?_pos, List.getElem?_cons_zero, List.getElem?_cons_succ, c1, c2, c3, c4, c5, c6, c7, c8, c9, c10, c11, c12]; exact Is.mk _) ?_)
                      | (refine sw_yes (by simp; exact Is.mk _) (by assumption) ?_)
                      | (refine sw_no (by simp; exact Is.mk _) (by assumption) ?_)
                      | (refine sw_if (by simp; exact Is.mk _) (fun _ => ?_) (fun _ => ?_)))
                    exact end_val (by simp; exact Is.mk _) (by simp [hn0, hn]) ⟨rfl, by simp [c1, c2, c3, c4, c5, c6, c7, c8, c9, c10, c11, c12, c13]⟩
                  · repeat' (first
                      | (refine sw_seq ?_) | (refine sw_block ?_) | (refine sw_skip ?_) | (refine sw_ret ?_) | (refine sw_exit ?_)
                      | (refine n_then ?_) | (refine r_then ?_) | (refine e_then ?_) | (refine n_block ?_) | (refine r_block ?_) | (refine e_block ?_) | (refine o_block rfl ?_)
                      | (refine sw_run (by simp [-getElem?_pos, List.getElem?_cons_zero, List.getElem?_cons_succ, c1, c2, c3, c4, c5, c6, c7, c8, c9, c10, c11, c12]; exact Is.mk _) ?_)
                      | (refine sw_true (by simp [-getElem?_pos, List.getElem?_cons_zero, List.getElem?_cons_succ, c1, c2, c3, c4, c5, c6, c7, c8, c9, c10, c11, c12]; exact Is.mk _) ?_) | (refine sw_false (by simp [-getElem?_pos, List.getElem?_cons_zero, List.getElem?_cons_succ, c1, c2, c3, c4, c5, c6, c7, c8, c9, c10, c11, c12]; exact Is.mk _) ?_)
                      | (refine sw_yes (by simp; exact Is.mk _) (by assumption) ?_)
                      | (refine sw_no (by simp; exact Is.mk _) (by assumption) ?_)
                      | (refine sw_if (by simp; exact Is.mk _) (fun _ => ?_) (fun _ => ?_)))
                    exact end_val (by simp; exact Is.mk _) (by simp [hn0, hn]) ⟨rfl, by simp [c1, c2, c3, c4, c5, c6, c7, c8, c9, c10, c11, c12]⟩
                · repeat' (first
                    | (refine sw_seq ?_) | (refine sw_block ?_) | (refine sw_skip ?_) | (refine sw_ret ?_) | (refine sw_exit ?_)
                    | (refine n_then ?_) | (refine r_then ?_) | (refine e_then ?_) | (refine n_block ?_) | (refine r_block ?_) | (refine e_block ?_) | (refine o_block rfl ?_)
                    | (refine sw_run (by simp [-getElem?_pos, List.getElem?_cons_zero, List.getElem?_cons_succ, c1, c2, c3, c4, c5, c6, c7, c8, c9, c10, c12]; exact Is.mk _) ?_)
                    | (refine sw_true (by simp [-getElem?_pos, List.getElem?_cons_zero, List.getElem?_cons_succ, c1, c2, c3, c4, c5, c6, c7, c8, c9, c10, c12]; exact Is.mk _) ?_) | (refine sw_false (by simp [-getElem?_pos, List.getElem?_cons_zero, List.getElem?_cons_succ, c1, c2, c3, c4, c5, c6, c7, c8, c9, c10, c12]; exact Is.mk _) ?_)
                    | (refine sw_yes (by simp; exact Is.mk _) (by assumption) ?_)
                    | (refine sw_no (by simp; exact Is.mk _) (by assumption) ?_)
                    | (refine sw_if (by simp; exact Is.mk _) (fun _ => ?_) (fun _ => ?_)))
                  exact end_val (by simp; exact Is.mk _) (by simp [hn0, hn]) ⟨rfl, by simp [c1, c2, c3, c4, c5, c6, c7, c8, c9, c10, c12]⟩
              · repeat' (first
                  | (refine sw_seq ?_) | (refine sw_block ?_) | (refine sw_skip ?_) | (refine sw_ret ?_) | (refine sw_exit ?_)
                  | (refine n_then ?_) | (refine r_then ?_) | (refine e_then ?_) | (refine n_block ?_) | (refine r_block ?_) | (refine e_block ?_) | (refine o_block rfl ?_)
                  | (refine sw_run (by simp [-getElem?_pos, List.getElem?_cons_zero, List.getElem?_cons_succ, c1, c2, c3, c4, c5, c6, c7, c12]; exact Is.mk _) ?_)
                  | (refine sw_true (by simp [-getElem?_pos, List.getElem?_cons_zero, List.getElem?_cons_succ, c1, c2, c3, c4, c5, c6, c7, c12]; exact Is.mk _) ?_) | (refine sw_false (by simp [-getElem?_pos, List.getElem?_cons_zero, List.getElem?_cons_succ, c1, c2, c3, c4, c5, c6, c7, c12]; exact Is.mk _) ?_)
                  | (refine sw_yes (by simp; exact Is.mk _) (by assumption) ?_)
                  | (refine sw_no (by simp; exact Is.mk _) (by assumption) ?_)
                  | (refine sw_if (by simp; exact Is.mk _) (fun _ => ?_) (fun _ => ?_)))
                exact end_val (by simp; exact Is.mk _) (by simp [hn0, hn]) ⟨rfl, by simp [c1, c2, c3, c4, c5, c6, c7, c12]⟩
            · repeat' (first
                | (refine sw_seq ?_) | (refine sw_block ?_) | (refine sw_skip ?_) | (refine sw_ret ?_) | (refine sw_exit ?_)
                | (refine n_then ?_) | (refine r_then ?_) | (refine e_then ?_) | (refine n_block ?_) | (refine r_block ?_) | (refine e_block ?_) | (refine o_block rfl ?_)
                | (refine sw_run (by simp [-getElem?_pos, List.getElem?_cons_zero, List.getElem?_cons_succ, c1, c2, c3, c4, c5, c6, c12]; exact Is.mk _) ?_)
                | (refine sw_true (by simp [-getElem?_pos, List.getElem?_cons_zero, List.getElem?_cons_succ, c1, c2, c3, c4, c5, c6, c12]; exact Is.mk _) ?_) | (refine sw_false (by simp [-getElem?_pos, List.getElem?_cons_zero, List.getElem?_cons_succ, c1, c2, c3, c4, c5, c6, c12]; exact Is.mk _) ?_)
                | (refine sw_yes (by simp; exact Is.mk _) (by assumption) ?_)
                | (refine sw_no (by simp; exact Is.mk _) (by assumption) ?_)
                | (refine sw_if (by simp; exact Is.mk _) (fun _ => ?_) (fun _ => ?_)))
              exact end_val (by simp; exact Is.mk _) (by simp [hn0, hn]) ⟨rfl, by simp [c1, c2, c3, c4, c5, c6, c12]⟩
          · repeat' (first
              | (refine sw_seq ?_) | (refine sw_block ?_) | (refine sw_skip ?_) | (refine sw_ret ?_) | (refine sw_exit ?_)
              | (refine n_then ?_) | (refine r_then ?_) | (refine e_then ?_) | (refine n_block ?_) | (refine r_block ?_) | (refine e_block ?_) | (refine o_block rfl ?_)
              | (refine sw_run (by simp [-getElem?_pos, List.getElem?_cons_zero, List.getElem?_cons_succ, c1, c2, c3, c4, c5, c12]; exact Is.mk _) ?_)
              | (refine sw_true (by simp [-getElem?_pos, List.getElem?_cons_zero, List.getElem?_cons_succ, c1, c2, c3, c4, c5, c12]; exact Is.mk _) ?_) | (refine sw_false (by simp [-getElem?_pos, List.getElem?_cons_zero, List.getElem?_cons_succ, c1, c2, c3, c4, c5, c12]; exact Is.mk _) ?_)
              | (refine sw_yes (by simp; exact Is.mk _) (by assumption) ?_)
              | (refine sw_no (by simp; exact Is.mk _) (by assumption) ?_)
              | (refine sw_if (by simp; exact Is.mk _) (fun _ => ?_) (fun _ => ?_)))
            exact end_val (by simp; exact Is.mk _) (by simp [hn0, hn]) ⟨rfl, by simp [c1, c2, c3, c4, c5, c12]⟩
        · repeat' (first
            | (refine sw_seq ?_) | (refine sw_block ?_) | (refine sw_skip ?_) | (refine sw_ret ?_) | (refine sw_exit ?_)
            | (refine n_then ?_) | (refine r_then ?_) | (refine e_then ?_) | (refine n_block ?_) | (refine r_block ?_) | (refine e_block ?_) | (refine o_block rfl ?_)
            | (refine sw_run (by simp [-getElem?_pos, List.getElem?_cons_zero, List.getElem?_cons_succ, c1, c2, c3, c4, c12]; exact Is.mk _) ?_)
            | (refine sw_true (by simp [-getElem?_pos, List.getElem?_cons_zero, List.getElem?_cons_succ, c1, c2, c3, c4, c12]; exact Is.mk _) ?_) | (refine sw_false (by simp [-getElem?_pos, List.getElem?_cons_zero, List.getElem?_cons_succ, c1, c2, c3, c4, c12]; exact Is.mk _) ?_)
            | (refine sw_yes (by simp; exact Is.mk _) (by assumption) ?_)
            | (refine sw_no (by simp; exact Is.mk _) (by assumption) ?_)
            | (refine sw_if (by simp; exact Is.mk _) (fun _ => ?_) (fun _ => ?_)))
          exact end_val (by simp; exact Is.mk _) (by simp [hn0, hn]) ⟨rfl, by simp [c1, c2, c3, c4, c12]⟩
      · repeat' (first
          | (refine sw_seq ?_) | (refine sw_block ?_) | (refine sw_skip ?_) | (refine sw_ret ?_) | (refine sw_exit ?_)
          | (refine n_then ?_) | (refine r_then ?_) | (refine e_then ?_) | (refine n_block ?_) | (refine r_block ?_) | (refine e_block ?_) | (refine o_block rfl ?_)
          | (refine sw_run (by simp [-getElem?_pos, List.getElem?_cons_zero, List.getElem?_cons_succ, c1, c2, c3, c12]; exact Is.mk _) ?_)
          | (refine sw_true (by simp [-getElem?_pos, List.getElem?_cons_zero, List.getElem?_cons_succ, c1, c2, c3, c12]; exact Is.mk _) ?_) | (refine sw_false (by simp [-getElem?_pos, List.getElem?_cons_zero, List.getElem?_cons_succ, c1, c2, c3, c12]; exact Is.mk _) ?_)
          | (refine sw_yes (by simp; exact Is.mk _) (by assumption) ?_)
          | (refine sw_no (by simp; exact Is.mk _) (by assumption) ?_)
          | (refine sw_if (by simp; exact Is.mk _) (fun _ => ?_) (fun _ => ?_)))
        exact end_val (by simp; exact Is.mk _) (by simp [hn0, hn]) ⟨rfl, by simp [c1, c2, c3, c12]⟩
    · repeat' (first
        | (refine sw_seq ?_) | (refine sw_block ?_) | (refine sw_skip ?_) | (refine sw_ret ?_) | (refine sw_exit ?_)
        | (refine n_then ?_) | (refine r_then ?_) | (refine e_then ?_) | (refine n_block ?_) | (refine r_block ?_) | (refine e_block ?_) | (refine o_block rfl ?_)
        | (refine sw_run (by simp [-getElem?_pos, List.getElem?_cons_zero, List.getElem?_cons_succ, c1, c2, c12]; exact Is.mk _) ?_)
        | (refine sw_true (by simp [-getElem?_pos, List.getElem?_cons_zero, List.getElem?_cons_succ, c1, c2, c12]; exact Is.mk _) ?_) | (refine sw_false (by simp [-getElem?_pos, List.getElem?_cons_zero, List.getElem?_cons_succ, c1, c2, c12]; exact Is.mk _) ?_)
        | (refine sw_yes (by simp; exact Is.mk _) (by assumption) ?_)
        | (refine sw_no (by simp; exact Is.mk _) (by assumption) ?_)
        | (refine sw_if (by simp; exact Is.mk _) (fun _ => ?_) (fun _ => ?_)))
      exact end_val (by simp; exact Is.mk _) (by simp [hn0, hn]) ⟨rfl, by simp [c1, c2, c12]⟩
  · repeat' (first
      | (refine sw_seq ?_) | (refine sw_block ?_) | (refine sw_skip ?_) | (refine sw_ret ?_) | (refine sw_exit ?_)
      | (refine n_then ?_) | (refine r_then ?_) | (refine e_then ?_) | (refine n_block ?_) | (refine r_block ?_) | (refine e_block ?_) | (refine o_block rfl ?_)
      | (refine sw_run (by simp [-getElem?_pos, List.getElem?_cons_zero, List.getElem?_cons_succ, c1, c12]; exact Is.mk _) ?_)
      | (refine sw_true (by simp [-getElem?_pos, List.getElem?_cons_zero, List.getElem?_cons_succ, c1, c12]; exact Is.mk _) ?_) | (refine sw_false (by simp [-getElem?_pos, List.getElem?_cons_zero, List.getElem?_cons_succ, c1, c12]; exact Is.mk _) ?_)
      | (refine sw_yes (by simp; exact Is.mk _) (by assumption) ?_)
      | (refine sw_no (by simp; exact Is.mk _) (by assumption) ?_)
      | (refine sw_if (by simp; exact Is.mk _) (fun _ => ?_) (fun _ => ?_)))
    exact end_val (by simp; exact Is.mk _) (by simp [hn0, hn]) ⟨rfl, by simp [c1, c12]⟩

set_option maxHeartbeats 4000000 in
set_option maxRecDepth 8000 in
theorem flie0 (p n' t : Int) (d : Dev) (c12 : ¬ d.kind = 3) : Pure Tryz.prog 104 [parA p n' t, devA d] (ab (devOk n' d)) := by
  refine pure_of Tryz.func104 rfl Tryz.ntmps104 (by simp) fun F n hF hn hn0 => ?_
  unfold devOk
  by_cases c1 : 0 ≤ d.round
  · by_cases c2 : 0 ≤ d.at_
    · by_cases c3 : 0 ≤ d.src
      · by_cases c4 : 1 ≤ d.frm
        · by_cases c5 : d.frm ≤ n'
          · by_cases c6 : 0 ≤ d.to
            · by_cases c7 : d.to ≤ n'
              · by_cases c8 : 1 ≤ d.kind
                · by_cases c9 : d.kind ≤ 4
                  · by_cases c10 : 0 ≤ d.of_
                    · by_cases c11 : d.of_ ≤ n'
                      · repeat' (first
                          | (refine sw_seq ?_) | (refine sw_block ?_) | (refine sw_skip ?_) | (refine sw_ret ?_) | (refine sw_exit ?_)
                          | (refine n_then ?_) | (refine r_then ?_) | (refine e_then ?_) | (refine n_block ?_) | (refine r_block ?_) | (refine e_block ?_) | (refine o_block rfl ?_)
                          | (refine sw_run (by simp [-getElem?_pos, List.getElem?_cons_zero, List.getElem?_cons_succ, c1, c2, c3, c4, c5, c6, c7, c8, c9, c10, c11, c12]; exact Is.mk _) ?_)
                          | (refine sw_true (by simp [-getElem?_pos, List.getElem?_cons_zero, List.getElem?_cons_succ, c1, c2, c3, c4, c5, c6, c7, c8, c9, c10, c11, c12]; exact Is.mk _) ?_) | (refine sw_false (by simp [-getElem?_pos, List.getElem?_cons_zero, List.getElem?_cons_succ, c1, c2, c3, c4, c5, c6, c7, c8, c9, c10, c11, c12]; exact Is.mk _) ?_)
                          | (refine sw_yes (by simp; exact Is.mk _) (by assumption) ?_)
                          | (refine sw_no (by simp; exact Is.mk _) (by assumption) ?_)
                          | (refine sw_if (by simp; exact Is.mk _) (fun _ => ?_) (fun _ => ?_)))
                        exact end_val (by simp; exact Is.mk _) (by simp [hn0, hn]) ⟨rfl, by simp [c1, c2, c3, c4, c5, c6, c7, c8, c9, c10, c11, c12]⟩
                      · repeat' (first
                          | (refine sw_seq ?_) | (refine sw_block ?_) | (refine sw_skip ?_) | (refine sw_ret ?_) | (refine sw_exit ?_)
                          | (refine n_then ?_) | (refine r_then ?_) | (refine e_then ?_) | (refine n_block ?_) | (refine r_block ?_) | (refine e_block ?_) | (refine o_block rfl ?_)
                          | (refine sw_run (by simp [-getElem?_pos, List.getElem?_cons_zero, List.getElem?_cons_succ, c1, c2, c3, c4, c5, c6, c7, c8, c9, c10, c11, c12]; exact Is.mk _) ?_)
                          | (refine sw_true (by simp [-getElem?_pos, List.getElem?_cons_zero, List.getElem?_cons_succ, c1, c2, c3, c4, c5, c6, c7, c8, c9, c10, c11, c12]; exact Is.mk _) ?_) | (refine sw_false (by simp [-getElem?_pos, List.getElem?_cons_zero, List.getElem?_cons_succ, c1, c2, c3, c4, c5, c6, c7, c8, c9, c10, c11, c12]; exact Is.mk _) ?_)
                          | (refine sw_yes (by simp; exact Is.mk _) (by assumption) ?_)
                          | (refine sw_no (by simp; exact Is.mk _) (by assumption) ?_)
                          | (refine sw_if (by simp; exact Is.mk _) (fun _ => ?_) (fun _ => ?_)))
                        exact end_val (by simp; exact Is.mk _) (by simp [hn0, hn]) ⟨rfl, by simp [c1, c2, c3, c4, c5, c6, c7, c8, c9, c10, c11, c12]⟩
                    · repeat' (first
                        | (refine sw_seq ?_) | (refine sw_block ?_) | (refine sw_skip ?_) | (refine sw_ret ?_) | (refine sw_exit ?_)
                        | (refine n_then ?_) | (refine r_then ?_) | (refine e_then ?_) | (refine n_block ?_) | (refine r_block ?_) | (refine e_block ?_) | (refine o_block rfl ?_)
                        | (refine sw_run (by simp [-getElem?_pos, List.getElem?_cons_zero, List.getElem?_cons_succ, c1, c2, c3, c4, c5, c6, c7, c8, c9, c10, c12]; exact Is.mk _) ?_)
                        | (refine sw_true (by simp [-getElem?_pos, List.getElem?_cons_zero, List.getElem?_cons_succ, c1, c2, c3, c4, c5, c6, c7, c8, c9, c10, c12]; exact Is.mk _) ?_) | (refine sw_false (by simp [-getElem?_pos, List.getElem?_cons_zero, List.getElem?_cons_succ, c1, c2, c3, c4, c5, c6, c7, c8, c9, c10, c12]; exact Is.mk _) ?_)
                        | (refine sw_yes (by simp; exact Is.mk _) (by assumption) ?_)
                        | (refine sw_no (by simp; exact Is.mk _) (by assumption) ?_)
                        | (refine sw_if (by simp; exact Is.mk _) (fun _ => ?_) (fun _ => ?_)))
                      exact end_val (by simp; exact Is.mk _) (by simp [hn0, hn]) ⟨rfl, by simp [c1, c2, c3, c4, c5, c6, c7, c8, c9, c10, c12]⟩
                  · repeat' (first
                      | (refine sw_seq ?_) | (refine sw_block ?_) | (refine sw_skip ?_) | (refine sw_ret ?_) | (refine sw_exit ?_)
                      | (refine n_then ?_) | (refine r_then ?_) | (refine e_then ?_) | (refine n_block ?_) | (refine r_block ?_) | (refine e_block ?_) | (refine o_block rfl ?_)
                      | (refine sw_run (by simp [-getElem?_pos, List.getElem?_cons_zero, List.getElem?_cons_succ, c1, c2, c3, c4, c5, c6, c7, c8, c9, c12]; exact Is.mk _) ?_)
                      | (refine sw_true (by simp [-getElem?_pos, List.getElem?_cons_zero, List.getElem?_cons_succ, c1, c2, c3, c4, c5, c6, c7, c8, c9, c12]; exact Is.mk _) ?_) | (refine sw_false (by simp [-getElem?_pos, List.getElem?_cons_zero, List.getElem?_cons_succ, c1, c2, c3, c4, c5, c6, c7, c8, c9, c12]; exact Is.mk _) ?_)
                      | (refine sw_yes (by simp; exact Is.mk _) (by assumption) ?_)
                      | (refine sw_no (by simp; exact Is.mk _) (by assumption) ?_)
                      | (refine sw_if (by simp; exact Is.mk _) (fun _ => ?_) (fun _ => ?_)))
                    exact end_val (by simp; exact Is.mk _) (by simp [hn0, hn]) ⟨rfl, by simp [c1, c2, c3, c4, c5, c6, c7, c8, c9, c12]⟩
                · repeat' (first
                    | (refine sw_seq ?_) | (refine sw_block ?_) | (refine sw_skip ?_) | (refine sw_ret ?_) | (refine sw_exit ?_)
                    | (refine n_then ?_) | (refine r_then ?_) | (refine e_then ?_) | (refine n_block ?_) | (refine r_block ?_) | (refine e_block ?_) | (refine o_block rfl ?_)
                    | (refine sw_run (by simp [-getElem?_pos, List.getElem?_cons_zero, List.getElem?_cons_succ, c1, c2, c3, c4, c5, c6, c7, c8, c12]; exact Is.mk _) ?_)
                    | (refine sw_true (by simp [-getElem?_pos, List.getElem?_cons_zero, List.getElem?_cons_succ, c1, c2, c3, c4, c5, c6, c7, c8, c12]; exact Is.mk _) ?_) | (refine sw_false (by simp [-getElem?_pos, List.getElem?_cons_zero, List.getElem?_cons_succ, c1, c2, c3, c4, c5, c6, c7, c8, c12]; exact Is.mk _) ?_)
                    | (refine sw_yes (by simp; exact Is.mk _) (by assumption) ?_)
                    | (refine sw_no (by simp; exact Is.mk _) (by assumption) ?_)
                    | (refine sw_if (by simp; exact Is.mk _) (fun _ => ?_) (fun _ => ?_)))
                  exact end_val (by simp; exact Is.mk _) (by simp [hn0, hn]) ⟨rfl, by simp [c1, c2, c3, c4, c5, c6, c7, c8, c12]⟩
              · repeat' (first
                  | (refine sw_seq ?_) | (refine sw_block ?_) | (refine sw_skip ?_) | (refine sw_ret ?_) | (refine sw_exit ?_)
                  | (refine n_then ?_) | (refine r_then ?_) | (refine e_then ?_) | (refine n_block ?_) | (refine r_block ?_) | (refine e_block ?_) | (refine o_block rfl ?_)
                  | (refine sw_run (by simp [-getElem?_pos, List.getElem?_cons_zero, List.getElem?_cons_succ, c1, c2, c3, c4, c5, c6, c7, c12]; exact Is.mk _) ?_)
                  | (refine sw_true (by simp [-getElem?_pos, List.getElem?_cons_zero, List.getElem?_cons_succ, c1, c2, c3, c4, c5, c6, c7, c12]; exact Is.mk _) ?_) | (refine sw_false (by simp [-getElem?_pos, List.getElem?_cons_zero, List.getElem?_cons_succ, c1, c2, c3, c4, c5, c6, c7, c12]; exact Is.mk _) ?_)
                  | (refine sw_yes (by simp; exact Is.mk _) (by assumption) ?_)
                  | (refine sw_no (by simp; exact Is.mk _) (by assumption) ?_)
                  | (refine sw_if (by simp; exact Is.mk _) (fun _ => ?_) (fun _ => ?_)))
                exact end_val (by simp; exact Is.mk _) (by simp [hn0, hn]) ⟨rfl, by simp [c1, c2, c3, c4, c5, c6, c7, c12]⟩
            · repeat' (first
                | (refine sw_seq ?_) | (refine sw_block ?_) | (refine sw_skip ?_) | (refine sw_ret ?_) | (refine sw_exit ?_)
                | (refine n_then ?_) | (refine r_then ?_) | (refine e_then ?_) | (refine n_block ?_) | (refine r_block ?_) | (refine e_block ?_) | (refine o_block rfl ?_)
                | (refine sw_run (by simp [-getElem?_pos, List.getElem?_cons_zero, List.getElem?_cons_succ, c1, c2, c3, c4, c5, c6, c12]; exact Is.mk _) ?_)
                | (refine sw_true (by simp [-getElem?_pos, List.getElem?_cons_zero, List.getElem?_cons_succ, c1, c2, c3, c4, c5, c6, c12]; exact Is.mk _) ?_) | (refine sw_false (by simp [-getElem?_pos, List.getElem?_cons_zero, List.getElem?_cons_succ, c1, c2, c3, c4, c5, c6, c12]; exact Is.mk _) ?_)
                | (refine sw_yes (by simp; exact Is.mk _) (by assumption) ?_)
                | (refine sw_no (by simp; exact Is.mk _) (by assumption) ?_)
                | (refine sw_if (by simp; exact Is.mk _) (fun _ => ?_) (fun _ => ?_)))
              exact end_val (by simp; exact Is.mk _) (by simp [hn0, hn]) ⟨rfl, by simp [c1, c2, c3, c4, c5, c6, c12]⟩
          · repeat' (first
              | (refine sw_seq ?_) | (refine sw_block ?_) | (refine sw_skip ?_) | (refine sw_ret ?_) | (refine sw_exit ?_)
              | (refine n_then ?_) | (refine r_then ?_) | (refine e_then ?_) | (refine n_block ?_) | (refine r_block ?_) | (refine e_block ?_) | (refine o_block rfl ?_)
              | (refine sw_run (by simp [-getElem?_pos, List.getElem?_cons_zero, List.getElem?_cons_succ, c1, c2, c3, c4, c5, c12]; exact Is.mk _) ?_)
              | (refine sw_true (by simp [-getElem?_pos, List.getElem?_cons_zero, List.getElem?_cons_succ, c1, c2, c3, c4, c5, c12]; exact Is.mk _) ?_) | (refine sw_false (by simp [-getElem?_pos, List.getElem?_cons_zero, List.getElem?_cons_succ, c1, c2, c3, c4, c5, c12]; exact Is.mk _) ?_)
              | (refine sw_yes (by simp; exact Is.mk _) (by assumption) ?_)
              | (refine sw_no (by simp; exact Is.mk _) (by assumption) ?_)
              | (refine sw_if (by simp; exact Is.mk _) (fun _ => ?_) (fun _ => ?_)))
            exact end_val (by simp; exact Is.mk _) (by simp [hn0, hn]) ⟨rfl, by simp [c1, c2, c3, c4, c5, c12]⟩
        · repeat' (first
            | (refine sw_seq ?_) | (refine sw_block ?_) | (refine sw_skip ?_) | (refine sw_ret ?_) | (refine sw_exit ?_)
            | (refine n_then ?_) | (refine r_then ?_) | (refine e_then ?_) | (refine n_block ?_) | (refine r_block ?_) | (refine e_block ?_) | (refine o_block rfl ?_)
            | (refine sw_run (by simp [-getElem?_pos, List.getElem?_cons_zero, List.getElem?_cons_succ, c1, c2, c3, c4, c12]; exact Is.mk _) ?_)
            | (refine sw_true (by simp [-getElem?_pos, List.getElem?_cons_zero, List.getElem?_cons_succ, c1, c2, c3, c4, c12]; exact Is.mk _) ?_) | (refine sw_false (by simp [-getElem?_pos, List.getElem?_cons_zero, List.getElem?_cons_succ, c1, c2, c3, c4, c12]; exact Is.mk _) ?_)
            | (refine sw_yes (by simp; exact Is.mk _) (by assumption) ?_)
            | (refine sw_no (by simp; exact Is.mk _) (by assumption) ?_)
            | (refine sw_if (by simp; exact Is.mk _) (fun _ => ?_) (fun _ => ?_)))
          exact end_val (by simp; exact Is.mk _) (by simp [hn0, hn]) ⟨rfl, by simp [c1, c2, c3, c4, c12]⟩
      · repeat' (first
          | (refine sw_seq ?_) | (refine sw_block ?_) | (refine sw_skip ?_) | (refine sw_ret ?_) | (refine sw_exit ?_)
          | (refine n_then ?_) | (refine r_then ?_) | (refine e_then ?_) | (refine n_block ?_) | (refine r_block ?_) | (refine e_block ?_) | (refine o_block rfl ?_)
          | (refine sw_run (by simp [-getElem?_pos, List.getElem?_cons_zero, List.getElem?_cons_succ, c1, c2, c3, c12]; exact Is.mk _) ?_)
          | (refine sw_true (by simp [-getElem?_pos, List.getElem?_cons_zero, List.getElem?_cons_succ, c1, c2, c3, c12]; exact Is.mk _) ?_) | (refine sw_false (by simp [-getElem?_pos, List.getElem?_cons_zero, List.getElem?_cons_succ, c1, c2, c3, c12]; exact Is.mk _) ?_)
          | (refine sw_yes (by simp; exact Is.mk _) (by assumption) ?_)
          | (refine sw_no (by simp; exact Is.mk _) (by assumption) ?_)
          | (refine sw_if (by simp; exact Is.mk _) (fun _ => ?_) (fun _ => ?_)))
        exact end_val (by simp; exact Is.mk _) (by simp [hn0, hn]) ⟨rfl, by simp [c1, c2, c3, c12]⟩
    · repeat' (first
        | (refine sw_seq ?_) | (refine sw_block ?_) | (refine sw_skip ?_) | (refine sw_ret ?_) | (refine sw_exit ?_)
        | (refine n_then ?_) | (refine r_then ?_) | (refine e_then ?_) | (refine n_block ?_) | (refine r_block ?_) | (refine e_block ?_) | (refine o_block rfl ?_)
        | (refine sw_run (by simp [-getElem?_pos, List.getElem?_cons_zero, List.getElem?_cons_succ, c1, c2, c12]; exact Is.mk _) ?_)
        | (refine sw_true (by simp [-getElem?_pos, List.getElem?_cons_zero, List.getElem?_cons_succ, c1, c2, c12]; exact Is.mk _) ?_) | (refine sw_false (by simp [-getElem?_pos, List.getElem?_cons_zero, List.getElem?_cons_succ, c1, c2, c12]; exact Is.mk _) ?_)
        | (refine sw_yes (by simp; exact Is.mk _) (by assumption) ?_)
        | (refine sw_no (by simp; exact Is.mk _) (by assumption) ?_)
        | (refine sw_if (by simp; exact Is.mk _) (fun _ => ?_) (fun _ => ?_)))
      exact end_val (by simp; exact Is.mk _) (by simp [hn0, hn]) ⟨rfl, by simp [c1, c2, c12]⟩
  · repeat' (first
      | (refine sw_seq ?_) | (refine sw_block ?_) | (refine sw_skip ?_) | (refine sw_ret ?_) | (refine sw_exit ?_)
      | (refine n_then ?_) | (refine r_then ?_) | (refine e_then ?_) | (refine n_block ?_) | (refine r_block ?_) | (refine e_block ?_) | (refine o_block rfl ?_)
      | (refine sw_run (by simp [-getElem?_pos, List.getElem?_cons_zero, List.getElem?_cons_succ, c1, c12]; exact Is.mk _) ?_)
      | (refine sw_true (by simp [-getElem?_pos, List.getElem?_cons_zero, List.getElem?_cons_succ, c1, c12]; exact Is.mk _) ?_) | (refine sw_false (by simp [-getElem?_pos, List.getElem?_cons_zero, List.getElem?_cons_succ, c1, c12]; exact Is.mk _) ?_)
      | (refine sw_yes (by simp; exact Is.mk _) (by assumption) ?_)
      | (refine sw_no (by simp; exact Is.mk _) (by assumption) ?_)
      | (refine sw_if (by simp; exact Is.mk _) (fun _ => ?_) (fun _ => ?_)))
    exact end_val (by simp; exact Is.mk _) (by simp [hn0, hn]) ⟨rfl, by simp [c1, c12]⟩

theorem flie_spec (p n' t : Int) (d : Dev) : Pure Tryz.prog 104 [parA p n' t, devA d] (ab (devOk n' d)) := by
  by_cases c : d.kind = 3
  · exact flie3 p n' t d c
  · exact flie0 p n' t d c

end Go.AM
