/- A gate of no form. -/
import Derived.Test.YtngghimofbefjaaGreatDoorG19
namespace Go.AM
set_option linter.unusedVariables false
set_option linter.unusedSimpArgs false
open Go Go.RowKit Go.Proofs

@[simp] theorem tsForm : tStruct Tryz.prog 244 = some [(0, 1), (1, 1), (2, 1), (3, 1), (4, 1), (5, 1), (6, 1)] := by kernel_rfl

set_option maxHeartbeats 4000000 in
theorem of_none (g : Gate) (hn' : ∀ j, j < 7 → fmatch g j = false) : Pure Tryz.prog 154 [gateA g] (.tup [.agg [.p (.v (.string ⟨#[]⟩)), ai 0, ab false, ab false, ab false, ab false, ab false], ab false]) := by
  refine pure_of Tryz.func154 rfl Tryz.ntmps154 (by simp) fun F n hF hn hn0 => ?_
  unfold gateA
  repeat' (first
    | (refine sw_seq ?_) | (refine sw_block ?_) | (refine sw_skip ?_) | (refine sw_ret ?_) | (refine sw_exit ?_)
    | (refine n_then ?_) | (refine r_then ?_) | (refine e_then ?_) | (refine n_block ?_) | (refine r_block ?_) | (refine e_block ?_) | (refine o_block rfl ?_)
    | (refine sw_run (by simp [-getElem?_pos, List.getElem?_cons_zero, List.getElem?_cons_succ, gfind]; exact Is.mk _) ?_)
    | (refine sw_true (by simp [-getElem?_pos, List.getElem?_cons_zero, List.getElem?_cons_succ, gfind]; exact Is.mk _) ?_) | (refine sw_false (by simp [-getElem?_pos, List.getElem?_cons_zero, List.getElem?_cons_succ, gfind]; exact Is.mk _) ?_)
    | (refine sw_yes (by simp; exact Is.mk _) (by assumption) ?_)
    | (refine sw_no (by simp; exact Is.mk _) (by assumption) ?_)
    | (refine sw_if (by simp; exact Is.mk _) (fun _ => ?_) (fun _ => ?_)))
  refine sw_loopI (α := Nat) (fun j => [(1, .ptr n 0 0 0), (2, .ptr (n + 1) 0 0 0), (6, .agg fcells), (7, ai j)]) (fun _ => [(n + 1, .row 0 244 7 [[.p (.v (.string ⟨#[]⟩)), ai 0, ab false, ab false, ab false, ab false, ab false]]), (n, gateB g)]) (fun _ => n + 2)
    (fun j => j ≤ 7) (fun j => 7 - j) 0 (Nat.zero_le _) ?_ ?_ ?_
  · intro _
    refine weak_cut_hp ?_ (by simp) (by simp)
    unfold fcells
    simp [gfind]
  · intro x
    exact fresh_of hF (by omega) (by simp)
  · intro j hj
    by_cases hj7 : j < 7
    · have hj8 : (j : Int) < 7 := by omega
      have hap := apart_forms hj7
      have hw : IntKind.i64.wrap ((j : Int) + 1) = ((j + 1 : Nat) : Int) := by rw [i64_in (by omega)]; simp
      have hx := hn' j (by omega)
      by_cases c1 : fk j = g.kind
      · cases hb : fm j <;> by_cases k1 : g.kind = 1 <;> by_cases k2 : g.k = 1
        all_goals try (exfalso; simp [fmatch, hb, k1, k2, c1] at hx; done)
        all_goals
          repeat' (first
            | (refine sw_seq ?_) | (refine sw_block ?_) | (refine sw_skip ?_) | (refine sw_ret ?_) | (refine sw_exit ?_)
            | (refine n_then ?_) | (refine r_then ?_) | (refine e_then ?_) | (refine n_block ?_) | (refine r_block ?_) | (refine e_block ?_) | (refine o_block rfl ?_)
            | (refine sw_run (by simp [-getElem?_pos, List.getElem?_cons_zero, List.getElem?_cons_succ, -apart, hj7, hj8, hap, hw, c1, k1, k2, hb]; exact Is.mk _) ?_)
            | (refine sw_true (by simp [-getElem?_pos, List.getElem?_cons_zero, List.getElem?_cons_succ, -apart, hj7, hj8, hap, hw, c1, k1, k2, hb]; exact Is.mk _) ?_) | (refine sw_false (by simp [-getElem?_pos, List.getElem?_cons_zero, List.getElem?_cons_succ, -apart, hj7, hj8, hap, hw, c1, k1, k2, hb]; exact Is.mk _) ?_)
            | (refine sw_yes (by simp; exact Is.mk _) (by assumption) ?_)
            | (refine sw_no (by simp; exact Is.mk _) (by assumption) ?_)
            | (refine sw_if (by simp; exact Is.mk _) (fun _ => ?_) (fun _ => ?_)))
          exact ⟨j + 1, by omega, by omega, weak_cut_hp (by simp [convL_f]) (by simp) (by simp [hn, hn0])⟩
      · repeat' (first
          | (refine sw_seq ?_) | (refine sw_block ?_) | (refine sw_skip ?_) | (refine sw_ret ?_) | (refine sw_exit ?_)
          | (refine n_then ?_) | (refine r_then ?_) | (refine e_then ?_) | (refine n_block ?_) | (refine r_block ?_) | (refine e_block ?_) | (refine o_block rfl ?_)
          | (refine sw_run (by simp [-getElem?_pos, List.getElem?_cons_zero, List.getElem?_cons_succ, -apart, hj7, hj8, hap, hw, c1]; exact Is.mk _) ?_)
          | (refine sw_true (by simp [-getElem?_pos, List.getElem?_cons_zero, List.getElem?_cons_succ, -apart, hj7, hj8, hap, hw, c1]; exact Is.mk _) ?_) | (refine sw_false (by simp [-getElem?_pos, List.getElem?_cons_zero, List.getElem?_cons_succ, -apart, hj7, hj8, hap, hw, c1]; exact Is.mk _) ?_)
          | (refine sw_yes (by simp; exact Is.mk _) (by assumption) ?_)
          | (refine sw_no (by simp; exact Is.mk _) (by assumption) ?_)
          | (refine sw_if (by simp; exact Is.mk _) (fun _ => ?_) (fun _ => ?_)))
        exact ⟨j + 1, by omega, by omega, weak_cut_hp (by simp [convL_f]) (by simp) (by simp [hn, hn0])⟩
    · obtain rfl : j = 7 := by omega
      repeat' (first
        | (refine sw_seq ?_) | (refine sw_block ?_) | (refine sw_skip ?_) | (refine sw_ret ?_) | (refine sw_exit ?_)
        | (refine n_then ?_) | (refine r_then ?_) | (refine e_then ?_) | (refine n_block ?_) | (refine r_block ?_) | (refine e_block ?_) | (refine o_block rfl ?_)
        | (refine sw_run (by simp [-getElem?_pos, List.getElem?_cons_zero, List.getElem?_cons_succ, ]; exact Is.mk _) ?_)
        | (refine sw_true (by simp [-getElem?_pos, List.getElem?_cons_zero, List.getElem?_cons_succ, ]; exact Is.mk _) ?_) | (refine sw_false (by simp [-getElem?_pos, List.getElem?_cons_zero, List.getElem?_cons_succ, ]; exact Is.mk _) ?_)
        | (refine sw_yes (by simp; exact Is.mk _) (by assumption) ?_)
        | (refine sw_no (by simp; exact Is.mk _) (by assumption) ?_)
        | (refine sw_if (by simp; exact Is.mk _) (fun _ => ?_) (fun _ => ?_)))
      exact end_ret (by simp; exact Is.mk _) (fun _ => weak_plain (by simp [conv, convL]) (by simp [hn, hn0])) ⟨rfl, by simp [pv]⟩

end Go.AM
