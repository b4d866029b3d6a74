/- A valid gate. -/
import Derived.Test.YtngghimofbefjaaGreatDoorS2
namespace Go.AM
set_option linter.unusedVariables false
set_option linter.unusedSimpArgs false
open Go Go.RowKit Go.Proofs

@[simp] theorem tsGate : tStruct Tryz.prog 87 = some [(0, 1), (1, 1), (2, 1), (3, 1), (4, 1)] := by kernel_rfl
@[simp] theorem teqGate : tEq Tryz.prog 87 = some (true, [(0, .i), (1, .i), (2, .i), (3, .i), (4, .i)]) := by kernel_rfl

def gateOk (p i : Int) (g : Gate) : Bool :=
  if g.kind = 1 then decide (g.a = 0) && decide (g.b = 0) && decide (1 ≤ g.frm) && decide (g.frm ≤ 13) && decide (g.k ≤ 1)
  else if g.kind = 2 then decide (g.frm = 0) && decide (g.a = 0) && decide (g.b = 0) && decide (g.k < p)
  else if g.kind = 5 then decide (g.frm = 0) && decide (g.b = 0) && decide (g.k < p) && decide (0 ≤ g.a) && decide (g.a < i)
  else if g.kind = 3 ∨ g.kind = 4 ∨ g.kind = 6 then decide (g.frm = 0) && decide (g.k = 0) && decide (0 ≤ g.a) && decide (g.a < i) && decide (0 ≤ g.b) && decide (g.b < i)
  else false

set_option maxHeartbeats 4000000 in
theorem gate_spec (p i : Int) (g : Gate) : Pure Tryz.prog 39 [au p, ai i, gateA g] (ab (gateOk p i g)) := by
  refine pure_of Tryz.func39 rfl Tryz.ntmps39 (by simp) fun F n hF hn hn0 => ?_
  unfold gateA

  by_cases k1 : g.kind = 1
  · by_cases c1 : g.a = 0
    · by_cases c2 : g.b = 0
      · by_cases c3 : 1 ≤ g.frm
        · by_cases c4 : g.frm ≤ 13
          · repeat' (first
              | (refine sw_seq ?_) | (refine sw_block ?_) | (refine sw_skip ?_) | (refine sw_ret ?_) | (refine sw_exit ?_)
              | (refine n_then ?_) | (refine r_then ?_) | (refine e_then ?_) | (refine n_block ?_) | (refine r_block ?_) | (refine e_block ?_) | (refine o_block rfl ?_)
              | (refine sw_run (by simp [k1, c1, c2, c3, c4]; exact Is.mk _) ?_)
              | (refine sw_true (by simp [k1, c1, c2, c3, c4]; exact Is.mk _) ?_) | (refine sw_false (by simp [k1, c1, c2, c3, c4]; exact Is.mk _) ?_)
              | (refine sw_yes (by simp; exact Is.mk _) (by assumption) ?_)
              | (refine sw_no (by simp; exact Is.mk _) (by assumption) ?_)
              | (refine sw_if (by simp; exact Is.mk _) (fun _ => ?_) (fun _ => ?_)))
            refine sw_draw (us := [(2,5),(3,5)]) mixed (by kernel_rfl) (by kernel_rfl) (ds_all (by simp [k1, c1, c2, c3, c4]; exact Is.mk _) (by simp [disAll, EDisj, wids, rids]) ?_)
            repeat' (first
              | (refine sw_seq ?_) | (refine sw_block ?_) | (refine sw_skip ?_) | (refine sw_ret ?_) | (refine sw_exit ?_)
              | (refine n_then ?_) | (refine r_then ?_) | (refine e_then ?_) | (refine n_block ?_) | (refine r_block ?_) | (refine e_block ?_) | (refine o_block rfl ?_)
              | (refine sw_run (by simp [k1, c1, c2, c3, c4]; exact Is.mk _) ?_)
              | (refine sw_true (by simp [k1, c1, c2, c3, c4]; exact Is.mk _) ?_) | (refine sw_false (by simp [k1, c1, c2, c3, c4]; exact Is.mk _) ?_)
              | (refine sw_yes (by simp; exact Is.mk _) (by assumption) ?_)
              | (refine sw_no (by simp; exact Is.mk _) (by assumption) ?_)
              | (refine sw_if (by simp; exact Is.mk _) (fun _ => ?_) (fun _ => ?_)))
            exact end_val (by simp; exact Is.mk _) (by simp [hn0, hn]) ⟨rfl, by simp [gateOk, k1, c1, c2, c3, c4]⟩
          · repeat' (first
              | (refine sw_seq ?_) | (refine sw_block ?_) | (refine sw_skip ?_) | (refine sw_ret ?_) | (refine sw_exit ?_)
              | (refine n_then ?_) | (refine r_then ?_) | (refine e_then ?_) | (refine n_block ?_) | (refine r_block ?_) | (refine e_block ?_) | (refine o_block rfl ?_)
              | (refine sw_run (by simp [k1, c1, c2, c3, c4]; exact Is.mk _) ?_)
              | (refine sw_true (by simp [k1, c1, c2, c3, c4]; exact Is.mk _) ?_) | (refine sw_false (by simp [k1, c1, c2, c3, c4]; exact Is.mk _) ?_)
              | (refine sw_yes (by simp; exact Is.mk _) (by assumption) ?_)
              | (refine sw_no (by simp; exact Is.mk _) (by assumption) ?_)
              | (refine sw_if (by simp; exact Is.mk _) (fun _ => ?_) (fun _ => ?_)))
            refine sw_draw (us := [(2,5),(3,5)]) mixed (by kernel_rfl) (by kernel_rfl) (ds_all (by simp [k1, c1, c2, c3, c4]; exact Is.mk _) (by simp [disAll, EDisj, wids, rids]) ?_)
            repeat' (first
              | (refine sw_seq ?_) | (refine sw_block ?_) | (refine sw_skip ?_) | (refine sw_ret ?_) | (refine sw_exit ?_)
              | (refine n_then ?_) | (refine r_then ?_) | (refine e_then ?_) | (refine n_block ?_) | (refine r_block ?_) | (refine e_block ?_) | (refine o_block rfl ?_)
              | (refine sw_run (by simp [k1, c1, c2, c3, c4]; exact Is.mk _) ?_)
              | (refine sw_true (by simp [k1, c1, c2, c3, c4]; exact Is.mk _) ?_) | (refine sw_false (by simp [k1, c1, c2, c3, c4]; exact Is.mk _) ?_)
              | (refine sw_yes (by simp; exact Is.mk _) (by assumption) ?_)
              | (refine sw_no (by simp; exact Is.mk _) (by assumption) ?_)
              | (refine sw_if (by simp; exact Is.mk _) (fun _ => ?_) (fun _ => ?_)))
            exact end_val (by simp; exact Is.mk _) (by simp [hn0, hn]) ⟨rfl, by simp [gateOk, k1, c1, c2, c3, c4]⟩
        · repeat' (first
            | (refine sw_seq ?_) | (refine sw_block ?_) | (refine sw_skip ?_) | (refine sw_ret ?_) | (refine sw_exit ?_)
            | (refine n_then ?_) | (refine r_then ?_) | (refine e_then ?_) | (refine n_block ?_) | (refine r_block ?_) | (refine e_block ?_) | (refine o_block rfl ?_)
            | (refine sw_run (by simp [k1, c1, c2, c3]; exact Is.mk _) ?_)
            | (refine sw_true (by simp [k1, c1, c2, c3]; exact Is.mk _) ?_) | (refine sw_false (by simp [k1, c1, c2, c3]; exact Is.mk _) ?_)
            | (refine sw_yes (by simp; exact Is.mk _) (by assumption) ?_)
            | (refine sw_no (by simp; exact Is.mk _) (by assumption) ?_)
            | (refine sw_if (by simp; exact Is.mk _) (fun _ => ?_) (fun _ => ?_)))
          refine sw_draw (us := [(2,5),(3,5)]) mixed (by kernel_rfl) (by kernel_rfl) (ds_all (by simp [k1, c1, c2, c3]; exact Is.mk _) (by simp [disAll, EDisj, wids, rids]) ?_)
          repeat' (first
            | (refine sw_seq ?_) | (refine sw_block ?_) | (refine sw_skip ?_) | (refine sw_ret ?_) | (refine sw_exit ?_)
            | (refine n_then ?_) | (refine r_then ?_) | (refine e_then ?_) | (refine n_block ?_) | (refine r_block ?_) | (refine e_block ?_) | (refine o_block rfl ?_)
            | (refine sw_run (by simp [k1, c1, c2, c3]; exact Is.mk _) ?_)
            | (refine sw_true (by simp [k1, c1, c2, c3]; exact Is.mk _) ?_) | (refine sw_false (by simp [k1, c1, c2, c3]; exact Is.mk _) ?_)
            | (refine sw_yes (by simp; exact Is.mk _) (by assumption) ?_)
            | (refine sw_no (by simp; exact Is.mk _) (by assumption) ?_)
            | (refine sw_if (by simp; exact Is.mk _) (fun _ => ?_) (fun _ => ?_)))
          exact end_val (by simp; exact Is.mk _) (by simp [hn0, hn]) ⟨rfl, by simp [gateOk, k1, c1, c2, c3]⟩
      · repeat' (first
          | (refine sw_seq ?_) | (refine sw_block ?_) | (refine sw_skip ?_) | (refine sw_ret ?_) | (refine sw_exit ?_)
          | (refine n_then ?_) | (refine r_then ?_) | (refine e_then ?_) | (refine n_block ?_) | (refine r_block ?_) | (refine e_block ?_) | (refine o_block rfl ?_)
          | (refine sw_run (by simp [k1, c1, c2]; exact Is.mk _) ?_)
          | (refine sw_true (by simp [k1, c1, c2]; exact Is.mk _) ?_) | (refine sw_false (by simp [k1, c1, c2]; exact Is.mk _) ?_)
          | (refine sw_yes (by simp; exact Is.mk _) (by assumption) ?_)
          | (refine sw_no (by simp; exact Is.mk _) (by assumption) ?_)
          | (refine sw_if (by simp; exact Is.mk _) (fun _ => ?_) (fun _ => ?_)))
        refine sw_draw (us := [(2,5),(3,5)]) mixed (by kernel_rfl) (by kernel_rfl) (ds_all (by simp [k1, c1, c2]; exact Is.mk _) (by simp [disAll, EDisj, wids, rids]) ?_)
        repeat' (first
          | (refine sw_seq ?_) | (refine sw_block ?_) | (refine sw_skip ?_) | (refine sw_ret ?_) | (refine sw_exit ?_)
          | (refine n_then ?_) | (refine r_then ?_) | (refine e_then ?_) | (refine n_block ?_) | (refine r_block ?_) | (refine e_block ?_) | (refine o_block rfl ?_)
          | (refine sw_run (by simp [k1, c1, c2]; exact Is.mk _) ?_)
          | (refine sw_true (by simp [k1, c1, c2]; exact Is.mk _) ?_) | (refine sw_false (by simp [k1, c1, c2]; exact Is.mk _) ?_)
          | (refine sw_yes (by simp; exact Is.mk _) (by assumption) ?_)
          | (refine sw_no (by simp; exact Is.mk _) (by assumption) ?_)
          | (refine sw_if (by simp; exact Is.mk _) (fun _ => ?_) (fun _ => ?_)))
        exact end_val (by simp; exact Is.mk _) (by simp [hn0, hn]) ⟨rfl, by simp [gateOk, k1, c1, c2]⟩
    · repeat' (first
        | (refine sw_seq ?_) | (refine sw_block ?_) | (refine sw_skip ?_) | (refine sw_ret ?_) | (refine sw_exit ?_)
        | (refine n_then ?_) | (refine r_then ?_) | (refine e_then ?_) | (refine n_block ?_) | (refine r_block ?_) | (refine e_block ?_) | (refine o_block rfl ?_)
        | (refine sw_run (by simp [k1, c1]; exact Is.mk _) ?_)
        | (refine sw_true (by simp [k1, c1]; exact Is.mk _) ?_) | (refine sw_false (by simp [k1, c1]; exact Is.mk _) ?_)
        | (refine sw_yes (by simp; exact Is.mk _) (by assumption) ?_)
        | (refine sw_no (by simp; exact Is.mk _) (by assumption) ?_)
        | (refine sw_if (by simp; exact Is.mk _) (fun _ => ?_) (fun _ => ?_)))
      refine sw_draw (us := [(2,5),(3,5)]) mixed (by kernel_rfl) (by kernel_rfl) (ds_all (by simp [k1, c1]; exact Is.mk _) (by simp [disAll, EDisj, wids, rids]) ?_)
      repeat' (first
        | (refine sw_seq ?_) | (refine sw_block ?_) | (refine sw_skip ?_) | (refine sw_ret ?_) | (refine sw_exit ?_)
        | (refine n_then ?_) | (refine r_then ?_) | (refine e_then ?_) | (refine n_block ?_) | (refine r_block ?_) | (refine e_block ?_) | (refine o_block rfl ?_)
        | (refine sw_run (by simp [k1, c1]; exact Is.mk _) ?_)
        | (refine sw_true (by simp [k1, c1]; exact Is.mk _) ?_) | (refine sw_false (by simp [k1, c1]; exact Is.mk _) ?_)
        | (refine sw_yes (by simp; exact Is.mk _) (by assumption) ?_)
        | (refine sw_no (by simp; exact Is.mk _) (by assumption) ?_)
        | (refine sw_if (by simp; exact Is.mk _) (fun _ => ?_) (fun _ => ?_)))
      exact end_val (by simp; exact Is.mk _) (by simp [hn0, hn]) ⟨rfl, by simp [gateOk, k1, c1]⟩
  · by_cases k2 : g.kind = 2
    · by_cases c1 : g.frm = 0
      · by_cases c2 : g.a = 0
        · by_cases c3 : g.b = 0
          · repeat' (first
              | (refine sw_seq ?_) | (refine sw_block ?_) | (refine sw_skip ?_) | (refine sw_ret ?_) | (refine sw_exit ?_)
              | (refine n_then ?_) | (refine r_then ?_) | (refine e_then ?_) | (refine n_block ?_) | (refine r_block ?_) | (refine e_block ?_) | (refine o_block rfl ?_)
              | (refine sw_run (by simp [k1, k2, c1, c2, c3]; exact Is.mk _) ?_)
              | (refine sw_true (by simp [k1, k2, c1, c2, c3]; exact Is.mk _) ?_) | (refine sw_false (by simp [k1, k2, c1, c2, c3]; exact Is.mk _) ?_)
              | (refine sw_yes (by simp; exact Is.mk _) (by assumption) ?_)
              | (refine sw_no (by simp; exact Is.mk _) (by assumption) ?_)
              | (refine sw_if (by simp; exact Is.mk _) (fun _ => ?_) (fun _ => ?_)))
            exact end_val (by simp; exact Is.mk _) (by simp [hn0, hn]) ⟨rfl, by simp [gateOk, k1, k2, c1, c2, c3]⟩
          · repeat' (first
              | (refine sw_seq ?_) | (refine sw_block ?_) | (refine sw_skip ?_) | (refine sw_ret ?_) | (refine sw_exit ?_)
              | (refine n_then ?_) | (refine r_then ?_) | (refine e_then ?_) | (refine n_block ?_) | (refine r_block ?_) | (refine e_block ?_) | (refine o_block rfl ?_)
              | (refine sw_run (by simp [k1, k2, c1, c2, c3]; exact Is.mk _) ?_)
              | (refine sw_true (by simp [k1, k2, c1, c2, c3]; exact Is.mk _) ?_) | (refine sw_false (by simp [k1, k2, c1, c2, c3]; exact Is.mk _) ?_)
              | (refine sw_yes (by simp; exact Is.mk _) (by assumption) ?_)
              | (refine sw_no (by simp; exact Is.mk _) (by assumption) ?_)
              | (refine sw_if (by simp; exact Is.mk _) (fun _ => ?_) (fun _ => ?_)))
            exact end_val (by simp; exact Is.mk _) (by simp [hn0, hn]) ⟨rfl, by simp [gateOk, k1, k2, c1, c2, c3]⟩
        · repeat' (first
            | (refine sw_seq ?_) | (refine sw_block ?_) | (refine sw_skip ?_) | (refine sw_ret ?_) | (refine sw_exit ?_)
            | (refine n_then ?_) | (refine r_then ?_) | (refine e_then ?_) | (refine n_block ?_) | (refine r_block ?_) | (refine e_block ?_) | (refine o_block rfl ?_)
            | (refine sw_run (by simp [k1, k2, c1, c2]; exact Is.mk _) ?_)
            | (refine sw_true (by simp [k1, k2, c1, c2]; exact Is.mk _) ?_) | (refine sw_false (by simp [k1, k2, c1, c2]; exact Is.mk _) ?_)
            | (refine sw_yes (by simp; exact Is.mk _) (by assumption) ?_)
            | (refine sw_no (by simp; exact Is.mk _) (by assumption) ?_)
            | (refine sw_if (by simp; exact Is.mk _) (fun _ => ?_) (fun _ => ?_)))
          exact end_val (by simp; exact Is.mk _) (by simp [hn0, hn]) ⟨rfl, by simp [gateOk, k1, k2, c1, c2]⟩
      · repeat' (first
          | (refine sw_seq ?_) | (refine sw_block ?_) | (refine sw_skip ?_) | (refine sw_ret ?_) | (refine sw_exit ?_)
          | (refine n_then ?_) | (refine r_then ?_) | (refine e_then ?_) | (refine n_block ?_) | (refine r_block ?_) | (refine e_block ?_) | (refine o_block rfl ?_)
          | (refine sw_run (by simp [k1, k2, c1]; exact Is.mk _) ?_)
          | (refine sw_true (by simp [k1, k2, c1]; exact Is.mk _) ?_) | (refine sw_false (by simp [k1, k2, c1]; exact Is.mk _) ?_)
          | (refine sw_yes (by simp; exact Is.mk _) (by assumption) ?_)
          | (refine sw_no (by simp; exact Is.mk _) (by assumption) ?_)
          | (refine sw_if (by simp; exact Is.mk _) (fun _ => ?_) (fun _ => ?_)))
        exact end_val (by simp; exact Is.mk _) (by simp [hn0, hn]) ⟨rfl, by simp [gateOk, k1, k2, c1]⟩
    · by_cases k5 : g.kind = 5
      · by_cases c1 : g.frm = 0
        · by_cases c2 : g.b = 0
          · by_cases c3 : g.k < p
            · by_cases c4 : 0 ≤ g.a
              · repeat' (first
                  | (refine sw_seq ?_) | (refine sw_block ?_) | (refine sw_skip ?_) | (refine sw_ret ?_) | (refine sw_exit ?_)
                  | (refine n_then ?_) | (refine r_then ?_) | (refine e_then ?_) | (refine n_block ?_) | (refine r_block ?_) | (refine e_block ?_) | (refine o_block rfl ?_)
                  | (refine sw_run (by simp [k1, k2, k5, c1, c2, c3, c4]; exact Is.mk _) ?_)
                  | (refine sw_true (by simp [k1, k2, k5, c1, c2, c3, c4]; exact Is.mk _) ?_) | (refine sw_false (by simp [k1, k2, k5, c1, c2, c3, c4]; exact Is.mk _) ?_)
                  | (refine sw_yes (by simp; exact Is.mk _) (by assumption) ?_)
                  | (refine sw_no (by simp; exact Is.mk _) (by assumption) ?_)
                  | (refine sw_if (by simp; exact Is.mk _) (fun _ => ?_) (fun _ => ?_)))
                refine sw_draw (us := [(2,5),(3,5)]) mixed (by kernel_rfl) (by kernel_rfl) (ds_all (by simp [k1, k2, k5, c1, c2, c3, c4]; exact Is.mk _) (by simp [disAll, EDisj, wids, rids]) ?_)
                repeat' (first
                  | (refine sw_seq ?_) | (refine sw_block ?_) | (refine sw_skip ?_) | (refine sw_ret ?_) | (refine sw_exit ?_)
                  | (refine n_then ?_) | (refine r_then ?_) | (refine e_then ?_) | (refine n_block ?_) | (refine r_block ?_) | (refine e_block ?_) | (refine o_block rfl ?_)
                  | (refine sw_run (by simp [k1, k2, k5, c1, c2, c3, c4]; exact Is.mk _) ?_)
                  | (refine sw_true (by simp [k1, k2, k5, c1, c2, c3, c4]; exact Is.mk _) ?_) | (refine sw_false (by simp [k1, k2, k5, c1, c2, c3, c4]; exact Is.mk _) ?_)
                  | (refine sw_yes (by simp; exact Is.mk _) (by assumption) ?_)
                  | (refine sw_no (by simp; exact Is.mk _) (by assumption) ?_)
                  | (refine sw_if (by simp; exact Is.mk _) (fun _ => ?_) (fun _ => ?_)))
                exact end_val (by simp; exact Is.mk _) (by simp [hn0, hn]) ⟨rfl, by simp [gateOk, k1, k2, k5, c1, c2, c3, c4]⟩
              · repeat' (first
                  | (refine sw_seq ?_) | (refine sw_block ?_) | (refine sw_skip ?_) | (refine sw_ret ?_) | (refine sw_exit ?_)
                  | (refine n_then ?_) | (refine r_then ?_) | (refine e_then ?_) | (refine n_block ?_) | (refine r_block ?_) | (refine e_block ?_) | (refine o_block rfl ?_)
                  | (refine sw_run (by simp [k1, k2, k5, c1, c2, c3, c4]; exact Is.mk _) ?_)
                  | (refine sw_true (by simp [k1, k2, k5, c1, c2, c3, c4]; exact Is.mk _) ?_) | (refine sw_false (by simp [k1, k2, k5, c1, c2, c3, c4]; exact Is.mk _) ?_)
                  | (refine sw_yes (by simp; exact Is.mk _) (by assumption) ?_)
                  | (refine sw_no (by simp; exact Is.mk _) (by assumption) ?_)
                  | (refine sw_if (by simp; exact Is.mk _) (fun _ => ?_) (fun _ => ?_)))
                refine sw_draw (us := [(2,5),(3,5)]) mixed (by kernel_rfl) (by kernel_rfl) (ds_all (by simp [k1, k2, k5, c1, c2, c3, c4]; exact Is.mk _) (by simp [disAll, EDisj, wids, rids]) ?_)
                repeat' (first
                  | (refine sw_seq ?_) | (refine sw_block ?_) | (refine sw_skip ?_) | (refine sw_ret ?_) | (refine sw_exit ?_)
                  | (refine n_then ?_) | (refine r_then ?_) | (refine e_then ?_) | (refine n_block ?_) | (refine r_block ?_) | (refine e_block ?_) | (refine o_block rfl ?_)
                  | (refine sw_run (by simp [k1, k2, k5, c1, c2, c3, c4]; exact Is.mk _) ?_)
                  | (refine sw_true (by simp [k1, k2, k5, c1, c2, c3, c4]; exact Is.mk _) ?_) | (refine sw_false (by simp [k1, k2, k5, c1, c2, c3, c4]; exact Is.mk _) ?_)
                  | (refine sw_yes (by simp; exact Is.mk _) (by assumption) ?_)
                  | (refine sw_no (by simp; exact Is.mk _) (by assumption) ?_)
                  | (refine sw_if (by simp; exact Is.mk _) (fun _ => ?_) (fun _ => ?_)))
                exact end_val (by simp; exact Is.mk _) (by simp [hn0, hn]) ⟨rfl, by simp [gateOk, k1, k2, k5, c1, c2, c3, c4]⟩
            · repeat' (first
                | (refine sw_seq ?_) | (refine sw_block ?_) | (refine sw_skip ?_) | (refine sw_ret ?_) | (refine sw_exit ?_)
                | (refine n_then ?_) | (refine r_then ?_) | (refine e_then ?_) | (refine n_block ?_) | (refine r_block ?_) | (refine e_block ?_) | (refine o_block rfl ?_)
                | (refine sw_run (by simp [k1, k2, k5, c1, c2, c3]; exact Is.mk _) ?_)
                | (refine sw_true (by simp [k1, k2, k5, c1, c2, c3]; exact Is.mk _) ?_) | (refine sw_false (by simp [k1, k2, k5, c1, c2, c3]; exact Is.mk _) ?_)
                | (refine sw_yes (by simp; exact Is.mk _) (by assumption) ?_)
                | (refine sw_no (by simp; exact Is.mk _) (by assumption) ?_)
                | (refine sw_if (by simp; exact Is.mk _) (fun _ => ?_) (fun _ => ?_)))
              refine sw_draw (us := [(2,5),(3,5)]) mixed (by kernel_rfl) (by kernel_rfl) (ds_all (by simp [k1, k2, k5, c1, c2, c3]; exact Is.mk _) (by simp [disAll, EDisj, wids, rids]) ?_)
              repeat' (first
                | (refine sw_seq ?_) | (refine sw_block ?_) | (refine sw_skip ?_) | (refine sw_ret ?_) | (refine sw_exit ?_)
                | (refine n_then ?_) | (refine r_then ?_) | (refine e_then ?_) | (refine n_block ?_) | (refine r_block ?_) | (refine e_block ?_) | (refine o_block rfl ?_)
                | (refine sw_run (by simp [k1, k2, k5, c1, c2, c3]; exact Is.mk _) ?_)
                | (refine sw_true (by simp [k1, k2, k5, c1, c2, c3]; exact Is.mk _) ?_) | (refine sw_false (by simp [k1, k2, k5, c1, c2, c3]; exact Is.mk _) ?_)
                | (refine sw_yes (by simp; exact Is.mk _) (by assumption) ?_)
                | (refine sw_no (by simp; exact Is.mk _) (by assumption) ?_)
                | (refine sw_if (by simp; exact Is.mk _) (fun _ => ?_) (fun _ => ?_)))
              exact end_val (by simp; exact Is.mk _) (by simp [hn0, hn]) ⟨rfl, by simp [gateOk, k1, k2, k5, c1, c2, c3]⟩
          · repeat' (first
              | (refine sw_seq ?_) | (refine sw_block ?_) | (refine sw_skip ?_) | (refine sw_ret ?_) | (refine sw_exit ?_)
              | (refine n_then ?_) | (refine r_then ?_) | (refine e_then ?_) | (refine n_block ?_) | (refine r_block ?_) | (refine e_block ?_) | (refine o_block rfl ?_)
              | (refine sw_run (by simp [k1, k2, k5, c1, c2]; exact Is.mk _) ?_)
              | (refine sw_true (by simp [k1, k2, k5, c1, c2]; exact Is.mk _) ?_) | (refine sw_false (by simp [k1, k2, k5, c1, c2]; exact Is.mk _) ?_)
              | (refine sw_yes (by simp; exact Is.mk _) (by assumption) ?_)
              | (refine sw_no (by simp; exact Is.mk _) (by assumption) ?_)
              | (refine sw_if (by simp; exact Is.mk _) (fun _ => ?_) (fun _ => ?_)))
            refine sw_draw (us := [(2,5),(3,5)]) mixed (by kernel_rfl) (by kernel_rfl) (ds_all (by simp [k1, k2, k5, c1, c2]; exact Is.mk _) (by simp [disAll, EDisj, wids, rids]) ?_)
            repeat' (first
              | (refine sw_seq ?_) | (refine sw_block ?_) | (refine sw_skip ?_) | (refine sw_ret ?_) | (refine sw_exit ?_)
              | (refine n_then ?_) | (refine r_then ?_) | (refine e_then ?_) | (refine n_block ?_) | (refine r_block ?_) | (refine e_block ?_) | (refine o_block rfl ?_)
              | (refine sw_run (by simp [k1, k2, k5, c1, c2]; exact Is.mk _) ?_)
              | (refine sw_true (by simp [k1, k2, k5, c1, c2]; exact Is.mk _) ?_) | (refine sw_false (by simp [k1, k2, k5, c1, c2]; exact Is.mk _) ?_)
              | (refine sw_yes (by simp; exact Is.mk _) (by assumption) ?_)
              | (refine sw_no (by simp; exact Is.mk _) (by assumption) ?_)
              | (refine sw_if (by simp; exact Is.mk _) (fun _ => ?_) (fun _ => ?_)))
            exact end_val (by simp; exact Is.mk _) (by simp [hn0, hn]) ⟨rfl, by simp [gateOk, k1, k2, k5, c1, c2]⟩
        · repeat' (first
            | (refine sw_seq ?_) | (refine sw_block ?_) | (refine sw_skip ?_) | (refine sw_ret ?_) | (refine sw_exit ?_)
            | (refine n_then ?_) | (refine r_then ?_) | (refine e_then ?_) | (refine n_block ?_) | (refine r_block ?_) | (refine e_block ?_) | (refine o_block rfl ?_)
            | (refine sw_run (by simp [k1, k2, k5, c1]; exact Is.mk _) ?_)
            | (refine sw_true (by simp [k1, k2, k5, c1]; exact Is.mk _) ?_) | (refine sw_false (by simp [k1, k2, k5, c1]; exact Is.mk _) ?_)
            | (refine sw_yes (by simp; exact Is.mk _) (by assumption) ?_)
            | (refine sw_no (by simp; exact Is.mk _) (by assumption) ?_)
            | (refine sw_if (by simp; exact Is.mk _) (fun _ => ?_) (fun _ => ?_)))
          refine sw_draw (us := [(2,5),(3,5)]) mixed (by kernel_rfl) (by kernel_rfl) (ds_all (by simp [k1, k2, k5, c1]; exact Is.mk _) (by simp [disAll, EDisj, wids, rids]) ?_)
          repeat' (first
            | (refine sw_seq ?_) | (refine sw_block ?_) | (refine sw_skip ?_) | (refine sw_ret ?_) | (refine sw_exit ?_)
            | (refine n_then ?_) | (refine r_then ?_) | (refine e_then ?_) | (refine n_block ?_) | (refine r_block ?_) | (refine e_block ?_) | (refine o_block rfl ?_)
            | (refine sw_run (by simp [k1, k2, k5, c1]; exact Is.mk _) ?_)
            | (refine sw_true (by simp [k1, k2, k5, c1]; exact Is.mk _) ?_) | (refine sw_false (by simp [k1, k2, k5, c1]; exact Is.mk _) ?_)
            | (refine sw_yes (by simp; exact Is.mk _) (by assumption) ?_)
            | (refine sw_no (by simp; exact Is.mk _) (by assumption) ?_)
            | (refine sw_if (by simp; exact Is.mk _) (fun _ => ?_) (fun _ => ?_)))
          exact end_val (by simp; exact Is.mk _) (by simp [hn0, hn]) ⟨rfl, by simp [gateOk, k1, k2, k5, c1]⟩
      · by_cases k3 : g.kind = 3
        · by_cases c1 : g.frm = 0
          · by_cases c2 : g.k = 0
            · by_cases c3 : 0 ≤ g.a
              · by_cases c4 : g.a < i
                · by_cases c5 : 0 ≤ g.b
                  · repeat' (first
                      | (refine sw_seq ?_) | (refine sw_block ?_) | (refine sw_skip ?_) | (refine sw_ret ?_) | (refine sw_exit ?_)
                      | (refine n_then ?_) | (refine r_then ?_) | (refine e_then ?_) | (refine n_block ?_) | (refine r_block ?_) | (refine e_block ?_) | (refine o_block rfl ?_)
                      | (refine sw_run (by simp [k1, k2, k5, k3, c1, c2, c3, c4, c5]; exact Is.mk _) ?_)
                      | (refine sw_true (by simp [k1, k2, k5, k3, c1, c2, c3, c4, c5]; exact Is.mk _) ?_) | (refine sw_false (by simp [k1, k2, k5, k3, c1, c2, c3, c4, c5]; exact Is.mk _) ?_)
                      | (refine sw_yes (by simp; exact Is.mk _) (by assumption) ?_)
                      | (refine sw_no (by simp; exact Is.mk _) (by assumption) ?_)
                      | (refine sw_if (by simp; exact Is.mk _) (fun _ => ?_) (fun _ => ?_)))
                    refine sw_draw (us := [(2,5),(3,5)]) mixed (by kernel_rfl) (by kernel_rfl) (ds_all (by simp [k1, k2, k5, k3, c1, c2, c3, c4, c5]; exact Is.mk _) (by simp [disAll, EDisj, wids, rids]) ?_)
                    repeat' (first
                      | (refine sw_seq ?_) | (refine sw_block ?_) | (refine sw_skip ?_) | (refine sw_ret ?_) | (refine sw_exit ?_)
                      | (refine n_then ?_) | (refine r_then ?_) | (refine e_then ?_) | (refine n_block ?_) | (refine r_block ?_) | (refine e_block ?_) | (refine o_block rfl ?_)
                      | (refine sw_run (by simp [k1, k2, k5, k3, c1, c2, c3, c4, c5]; exact Is.mk _) ?_)
                      | (refine sw_true (by simp [k1, k2, k5, k3, c1, c2, c3, c4, c5]; exact Is.mk _) ?_) | (refine sw_false (by simp [k1, k2, k5, k3, c1, c2, c3, c4, c5]; exact Is.mk _) ?_)
                      | (refine sw_yes (by simp; exact Is.mk _) (by assumption) ?_)
                      | (refine sw_no (by simp; exact Is.mk _) (by assumption) ?_)
                      | (refine sw_if (by simp; exact Is.mk _) (fun _ => ?_) (fun _ => ?_)))
                    exact end_val (by simp; exact Is.mk _) (by simp [hn0, hn]) ⟨rfl, by simp [gateOk, k1, k2, k5, k3, c1, c2, c3, c4, c5]⟩
                  · repeat' (first
                      | (refine sw_seq ?_) | (refine sw_block ?_) | (refine sw_skip ?_) | (refine sw_ret ?_) | (refine sw_exit ?_)
                      | (refine n_then ?_) | (refine r_then ?_) | (refine e_then ?_) | (refine n_block ?_) | (refine r_block ?_) | (refine e_block ?_) | (refine o_block rfl ?_)
                      | (refine sw_run (by simp [k1, k2, k5, k3, c1, c2, c3, c4, c5]; exact Is.mk _) ?_)
                      | (refine sw_true (by simp [k1, k2, k5, k3, c1, c2, c3, c4, c5]; exact Is.mk _) ?_) | (refine sw_false (by simp [k1, k2, k5, k3, c1, c2, c3, c4, c5]; exact Is.mk _) ?_)
                      | (refine sw_yes (by simp; exact Is.mk _) (by assumption) ?_)
                      | (refine sw_no (by simp; exact Is.mk _) (by assumption) ?_)
                      | (refine sw_if (by simp; exact Is.mk _) (fun _ => ?_) (fun _ => ?_)))
                    refine sw_draw (us := [(2,5),(3,5)]) mixed (by kernel_rfl) (by kernel_rfl) (ds_all (by simp [k1, k2, k5, k3, c1, c2, c3, c4, c5]; exact Is.mk _) (by simp [disAll, EDisj, wids, rids]) ?_)
                    repeat' (first
                      | (refine sw_seq ?_) | (refine sw_block ?_) | (refine sw_skip ?_) | (refine sw_ret ?_) | (refine sw_exit ?_)
                      | (refine n_then ?_) | (refine r_then ?_) | (refine e_then ?_) | (refine n_block ?_) | (refine r_block ?_) | (refine e_block ?_) | (refine o_block rfl ?_)
                      | (refine sw_run (by simp [k1, k2, k5, k3, c1, c2, c3, c4, c5]; exact Is.mk _) ?_)
                      | (refine sw_true (by simp [k1, k2, k5, k3, c1, c2, c3, c4, c5]; exact Is.mk _) ?_) | (refine sw_false (by simp [k1, k2, k5, k3, c1, c2, c3, c4, c5]; exact Is.mk _) ?_)
                      | (refine sw_yes (by simp; exact Is.mk _) (by assumption) ?_)
                      | (refine sw_no (by simp; exact Is.mk _) (by assumption) ?_)
                      | (refine sw_if (by simp; exact Is.mk _) (fun _ => ?_) (fun _ => ?_)))
                    exact end_val (by simp; exact Is.mk _) (by simp [hn0, hn]) ⟨rfl, by simp [gateOk, k1, k2, k5, k3, c1, c2, c3, c4, c5]⟩
                · repeat' (first
                    | (refine sw_seq ?_) | (refine sw_block ?_) | (refine sw_skip ?_) | (refine sw_ret ?_) | (refine sw_exit ?_)
                    | (refine n_then ?_) | (refine r_then ?_) | (refine e_then ?_) | (refine n_block ?_) | (refine r_block ?_) | (refine e_block ?_) | (refine o_block rfl ?_)
                    | (refine sw_run (by simp [k1, k2, k5, k3, c1, c2, c3, c4]; exact Is.mk _) ?_)
                    | (refine sw_true (by simp [k1, k2, k5, k3, c1, c2, c3, c4]; exact Is.mk _) ?_) | (refine sw_false (by simp [k1, k2, k5, k3, c1, c2, c3, c4]; exact Is.mk _) ?_)
                    | (refine sw_yes (by simp; exact Is.mk _) (by assumption) ?_)
                    | (refine sw_no (by simp; exact Is.mk _) (by assumption) ?_)
                    | (refine sw_if (by simp; exact Is.mk _) (fun _ => ?_) (fun _ => ?_)))
                  refine sw_draw (us := [(2,5),(3,5)]) mixed (by kernel_rfl) (by kernel_rfl) (ds_all (by simp [k1, k2, k5, k3, c1, c2, c3, c4]; exact Is.mk _) (by simp [disAll, EDisj, wids, rids]) ?_)
                  repeat' (first
                    | (refine sw_seq ?_) | (refine sw_block ?_) | (refine sw_skip ?_) | (refine sw_ret ?_) | (refine sw_exit ?_)
                    | (refine n_then ?_) | (refine r_then ?_) | (refine e_then ?_) | (refine n_block ?_) | (refine r_block ?_) | (refine e_block ?_) | (refine o_block rfl ?_)
                    | (refine sw_run (by simp [k1, k2, k5, k3, c1, c2, c3, c4]; exact Is.mk _) ?_)
                    | (refine sw_true (by simp [k1, k2, k5, k3, c1, c2, c3, c4]; exact Is.mk _) ?_) | (refine sw_false (by simp [k1, k2, k5, k3, c1, c2, c3, c4]; exact Is.mk _) ?_)
                    | (refine sw_yes (by simp; exact Is.mk _) (by assumption) ?_)
                    | (refine sw_no (by simp; exact Is.mk _) (by assumption) ?_)
                    | (refine sw_if (by simp; exact Is.mk _) (fun _ => ?_) (fun _ => ?_)))
                  exact end_val (by simp; exact Is.mk _) (by simp [hn0, hn]) ⟨rfl, by simp [gateOk, k1, k2, k5, k3, c1, c2, c3, c4]⟩
              · repeat' (first
                  | (refine sw_seq ?_) | (refine sw_block ?_) | (refine sw_skip ?_) | (refine sw_ret ?_) | (refine sw_exit ?_)
                  | (refine n_then ?_) | (refine r_then ?_) | (refine e_then ?_) | (refine n_block ?_) | (refine r_block ?_) | (refine e_block ?_) | (refine o_block rfl ?_)
                  | (refine sw_run (by simp [k1, k2, k5, k3, c1, c2, c3]; exact Is.mk _) ?_)
                  | (refine sw_true (by simp [k1, k2, k5, k3, c1, c2, c3]; exact Is.mk _) ?_) | (refine sw_false (by simp [k1, k2, k5, k3, c1, c2, c3]; exact Is.mk _) ?_)
                  | (refine sw_yes (by simp; exact Is.mk _) (by assumption) ?_)
                  | (refine sw_no (by simp; exact Is.mk _) (by assumption) ?_)
                  | (refine sw_if (by simp; exact Is.mk _) (fun _ => ?_) (fun _ => ?_)))
                refine sw_draw (us := [(2,5),(3,5)]) mixed (by kernel_rfl) (by kernel_rfl) (ds_all (by simp [k1, k2, k5, k3, c1, c2, c3]; exact Is.mk _) (by simp [disAll, EDisj, wids, rids]) ?_)
                repeat' (first
                  | (refine sw_seq ?_) | (refine sw_block ?_) | (refine sw_skip ?_) | (refine sw_ret ?_) | (refine sw_exit ?_)
                  | (refine n_then ?_) | (refine r_then ?_) | (refine e_then ?_) | (refine n_block ?_) | (refine r_block ?_) | (refine e_block ?_) | (refine o_block rfl ?_)
                  | (refine sw_run (by simp [k1, k2, k5, k3, c1, c2, c3]; exact Is.mk _) ?_)
                  | (refine sw_true (by simp [k1, k2, k5, k3, c1, c2, c3]; exact Is.mk _) ?_) | (refine sw_false (by simp [k1, k2, k5, k3, c1, c2, c3]; exact Is.mk _) ?_)
                  | (refine sw_yes (by simp; exact Is.mk _) (by assumption) ?_)
                  | (refine sw_no (by simp; exact Is.mk _) (by assumption) ?_)
                  | (refine sw_if (by simp; exact Is.mk _) (fun _ => ?_) (fun _ => ?_)))
                exact end_val (by simp; exact Is.mk _) (by simp [hn0, hn]) ⟨rfl, by simp [gateOk, k1, k2, k5, k3, c1, c2, c3]⟩
            · repeat' (first
                | (refine sw_seq ?_) | (refine sw_block ?_) | (refine sw_skip ?_) | (refine sw_ret ?_) | (refine sw_exit ?_)
                | (refine n_then ?_) | (refine r_then ?_) | (refine e_then ?_) | (refine n_block ?_) | (refine r_block ?_) | (refine e_block ?_) | (refine o_block rfl ?_)
                | (refine sw_run (by simp [k1, k2, k5, k3, c1, c2]; exact Is.mk _) ?_)
                | (refine sw_true (by simp [k1, k2, k5, k3, c1, c2]; exact Is.mk _) ?_) | (refine sw_false (by simp [k1, k2, k5, k3, c1, c2]; exact Is.mk _) ?_)
                | (refine sw_yes (by simp; exact Is.mk _) (by assumption) ?_)
                | (refine sw_no (by simp; exact Is.mk _) (by assumption) ?_)
                | (refine sw_if (by simp; exact Is.mk _) (fun _ => ?_) (fun _ => ?_)))
              refine sw_draw (us := [(2,5),(3,5)]) mixed (by kernel_rfl) (by kernel_rfl) (ds_all (by simp [k1, k2, k5, k3, c1, c2]; exact Is.mk _) (by simp [disAll, EDisj, wids, rids]) ?_)
              repeat' (first
                | (refine sw_seq ?_) | (refine sw_block ?_) | (refine sw_skip ?_) | (refine sw_ret ?_) | (refine sw_exit ?_)
                | (refine n_then ?_) | (refine r_then ?_) | (refine e_then ?_) | (refine n_block ?_) | (refine r_block ?_) | (refine e_block ?_) | (refine o_block rfl ?_)
                | (refine sw_run (by simp [k1, k2, k5, k3, c1, c2]; exact Is.mk _) ?_)
                | (refine sw_true (by simp [k1, k2, k5, k3, c1, c2]; exact Is.mk _) ?_) | (refine sw_false (by simp [k1, k2, k5, k3, c1, c2]; exact Is.mk _) ?_)
                | (refine sw_yes (by simp; exact Is.mk _) (by assumption) ?_)
                | (refine sw_no (by simp; exact Is.mk _) (by assumption) ?_)
                | (refine sw_if (by simp; exact Is.mk _) (fun _ => ?_) (fun _ => ?_)))
              exact end_val (by simp; exact Is.mk _) (by simp [hn0, hn]) ⟨rfl, by simp [gateOk, k1, k2, k5, k3, c1, c2]⟩
          · repeat' (first
              | (refine sw_seq ?_) | (refine sw_block ?_) | (refine sw_skip ?_) | (refine sw_ret ?_) | (refine sw_exit ?_)
              | (refine n_then ?_) | (refine r_then ?_) | (refine e_then ?_) | (refine n_block ?_) | (refine r_block ?_) | (refine e_block ?_) | (refine o_block rfl ?_)
              | (refine sw_run (by simp [k1, k2, k5, k3, c1]; exact Is.mk _) ?_)
              | (refine sw_true (by simp [k1, k2, k5, k3, c1]; exact Is.mk _) ?_) | (refine sw_false (by simp [k1, k2, k5, k3, c1]; exact Is.mk _) ?_)
              | (refine sw_yes (by simp; exact Is.mk _) (by assumption) ?_)
              | (refine sw_no (by simp; exact Is.mk _) (by assumption) ?_)
              | (refine sw_if (by simp; exact Is.mk _) (fun _ => ?_) (fun _ => ?_)))
            refine sw_draw (us := [(2,5),(3,5)]) mixed (by kernel_rfl) (by kernel_rfl) (ds_all (by simp [k1, k2, k5, k3, c1]; exact Is.mk _) (by simp [disAll, EDisj, wids, rids]) ?_)
            repeat' (first
              | (refine sw_seq ?_) | (refine sw_block ?_) | (refine sw_skip ?_) | (refine sw_ret ?_) | (refine sw_exit ?_)
              | (refine n_then ?_) | (refine r_then ?_) | (refine e_then ?_) | (refine n_block ?_) | (refine r_block ?_) | (refine e_block ?_) | (refine o_block rfl ?_)
              | (refine sw_run (by simp [k1, k2, k5, k3, c1]; exact Is.mk _) ?_)
              | (refine sw_true (by simp [k1, k2, k5, k3, c1]; exact Is.mk _) ?_) | (refine sw_false (by simp [k1, k2, k5, k3, c1]; exact Is.mk _) ?_)
              | (refine sw_yes (by simp; exact Is.mk _) (by assumption) ?_)
              | (refine sw_no (by simp; exact Is.mk _) (by assumption) ?_)
              | (refine sw_if (by simp; exact Is.mk _) (fun _ => ?_) (fun _ => ?_)))
            exact end_val (by simp; exact Is.mk _) (by simp [hn0, hn]) ⟨rfl, by simp [gateOk, k1, k2, k5, k3, c1]⟩
        · skip
          by_cases k4 : g.kind = 4
          · by_cases c1 : g.frm = 0
            · by_cases c2 : g.k = 0
              · by_cases c3 : 0 ≤ g.a
                · by_cases c4 : g.a < i
                  · by_cases c5 : 0 ≤ g.b
                    · repeat' (first
                        | (refine sw_seq ?_) | (refine sw_block ?_) | (refine sw_skip ?_) | (refine sw_ret ?_) | (refine sw_exit ?_)
                        | (refine n_then ?_) | (refine r_then ?_) | (refine e_then ?_) | (refine n_block ?_) | (refine r_block ?_) | (refine e_block ?_) | (refine o_block rfl ?_)
                        | (refine sw_run (by simp [k1, k2, k5, k3, k4, c1, c2, c3, c4, c5]; exact Is.mk _) ?_)
                        | (refine sw_true (by simp [k1, k2, k5, k3, k4, c1, c2, c3, c4, c5]; exact Is.mk _) ?_) | (refine sw_false (by simp [k1, k2, k5, k3, k4, c1, c2, c3, c4, c5]; exact Is.mk _) ?_)
                        | (refine sw_yes (by simp; exact Is.mk _) (by assumption) ?_)
                        | (refine sw_no (by simp; exact Is.mk _) (by assumption) ?_)
                        | (refine sw_if (by simp; exact Is.mk _) (fun _ => ?_) (fun _ => ?_)))
                      refine sw_draw (us := [(2,5),(3,5)]) mixed (by kernel_rfl) (by kernel_rfl) (ds_all (by simp [k1, k2, k5, k3, k4, c1, c2, c3, c4, c5]; exact Is.mk _) (by simp [disAll, EDisj, wids, rids]) ?_)
                      repeat' (first
                        | (refine sw_seq ?_) | (refine sw_block ?_) | (refine sw_skip ?_) | (refine sw_ret ?_) | (refine sw_exit ?_)
                        | (refine n_then ?_) | (refine r_then ?_) | (refine e_then ?_) | (refine n_block ?_) | (refine r_block ?_) | (refine e_block ?_) | (refine o_block rfl ?_)
                        | (refine sw_run (by simp [k1, k2, k5, k3, k4, c1, c2, c3, c4, c5]; exact Is.mk _) ?_)
                        | (refine sw_true (by simp [k1, k2, k5, k3, k4, c1, c2, c3, c4, c5]; exact Is.mk _) ?_) | (refine sw_false (by simp [k1, k2, k5, k3, k4, c1, c2, c3, c4, c5]; exact Is.mk _) ?_)
                        | (refine sw_yes (by simp; exact Is.mk _) (by assumption) ?_)
                        | (refine sw_no (by simp; exact Is.mk _) (by assumption) ?_)
                        | (refine sw_if (by simp; exact Is.mk _) (fun _ => ?_) (fun _ => ?_)))
                      exact end_val (by simp; exact Is.mk _) (by simp [hn0, hn]) ⟨rfl, by simp [gateOk, k1, k2, k5, k3, k4, c1, c2, c3, c4, c5]⟩
                    · repeat' (first
                        | (refine sw_seq ?_) | (refine sw_block ?_) | (refine sw_skip ?_) | (refine sw_ret ?_) | (refine sw_exit ?_)
                        | (refine n_then ?_) | (refine r_then ?_) | (refine e_then ?_) | (refine n_block ?_) | (refine r_block ?_) | (refine e_block ?_) | (refine o_block rfl ?_)
                        | (refine sw_run (by simp [k1, k2, k5, k3, k4, c1, c2, c3, c4, c5]; exact Is.mk _) ?_)
                        | (refine sw_true (by simp [k1, k2, k5, k3, k4, c1, c2, c3, c4, c5]; exact Is.mk _) ?_) | (refine sw_false (by simp [k1, k2, k5, k3, k4, c1, c2, c3, c4, c5]; exact Is.mk _) ?_)
                        | (refine sw_yes (by simp; exact Is.mk _) (by assumption) ?_)
                        | (refine sw_no (by simp; exact Is.mk _) (by assumption) ?_)
                        | (refine sw_if (by simp; exact Is.mk _) (fun _ => ?_) (fun _ => ?_)))
                      refine sw_draw (us := [(2,5),(3,5)]) mixed (by kernel_rfl) (by kernel_rfl) (ds_all (by simp [k1, k2, k5, k3, k4, c1, c2, c3, c4, c5]; exact Is.mk _) (by simp [disAll, EDisj, wids, rids]) ?_)
                      repeat' (first
                        | (refine sw_seq ?_) | (refine sw_block ?_) | (refine sw_skip ?_) | (refine sw_ret ?_) | (refine sw_exit ?_)
                        | (refine n_then ?_) | (refine r_then ?_) | (refine e_then ?_) | (refine n_block ?_) | (refine r_block ?_) | (refine e_block ?_) | (refine o_block rfl ?_)
                        | (refine sw_run (by simp [k1, k2, k5, k3, k4, c1, c2, c3, c4, c5]; exact Is.mk _) ?_)
                        | (refine sw_true (by simp [k1, k2, k5, k3, k4, c1, c2, c3, c4, c5]; exact Is.mk _) ?_) | (refine sw_false (by simp [k1, k2, k5, k3, k4, c1, c2, c3, c4, c5]; exact Is.mk _) ?_)
                        | (refine sw_yes (by simp; exact Is.mk _) (by assumption) ?_)
                        | (refine sw_no (by simp; exact Is.mk _) (by assumption) ?_)
                        | (refine sw_if (by simp; exact Is.mk _) (fun _ => ?_) (fun _ => ?_)))
                      exact end_val (by simp; exact Is.mk _) (by simp [hn0, hn]) ⟨rfl, by simp [gateOk, k1, k2, k5, k3, k4, c1, c2, c3, c4, c5]⟩
                  · repeat' (first
                      | (refine sw_seq ?_) | (refine sw_block ?_) | (refine sw_skip ?_) | (refine sw_ret ?_) | (refine sw_exit ?_)
                      | (refine n_then ?_) | (refine r_then ?_) | (refine e_then ?_) | (refine n_block ?_) | (refine r_block ?_) | (refine e_block ?_) | (refine o_block rfl ?_)
                      | (refine sw_run (by simp [k1, k2, k5, k3, k4, c1, c2, c3, c4]; exact Is.mk _) ?_)
                      | (refine sw_true (by simp [k1, k2, k5, k3, k4, c1, c2, c3, c4]; exact Is.mk _) ?_) | (refine sw_false (by simp [k1, k2, k5, k3, k4, c1, c2, c3, c4]; exact Is.mk _) ?_)
                      | (refine sw_yes (by simp; exact Is.mk _) (by assumption) ?_)
                      | (refine sw_no (by simp; exact Is.mk _) (by assumption) ?_)
                      | (refine sw_if (by simp; exact Is.mk _) (fun _ => ?_) (fun _ => ?_)))
                    refine sw_draw (us := [(2,5),(3,5)]) mixed (by kernel_rfl) (by kernel_rfl) (ds_all (by simp [k1, k2, k5, k3, k4, c1, c2, c3, c4]; exact Is.mk _) (by simp [disAll, EDisj, wids, rids]) ?_)
                    repeat' (first
                      | (refine sw_seq ?_) | (refine sw_block ?_) | (refine sw_skip ?_) | (refine sw_ret ?_) | (refine sw_exit ?_)
                      | (refine n_then ?_) | (refine r_then ?_) | (refine e_then ?_) | (refine n_block ?_) | (refine r_block ?_) | (refine e_block ?_) | (refine o_block rfl ?_)
                      | (refine sw_run (by simp [k1, k2, k5, k3, k4, c1, c2, c3, c4]; exact Is.mk _) ?_)
                      | (refine sw_true (by simp [k1, k2, k5, k3, k4, c1, c2, c3, c4]; exact Is.mk _) ?_) | (refine sw_false (by simp [k1, k2, k5, k3, k4, c1, c2, c3, c4]; exact Is.mk _) ?_)
                      | (refine sw_yes (by simp; exact Is.mk _) (by assumption) ?_)
                      | (refine sw_no (by simp; exact Is.mk _) (by assumption) ?_)
                      | (refine sw_if (by simp; exact Is.mk _) (fun _ => ?_) (fun _ => ?_)))
                    exact end_val (by simp; exact Is.mk _) (by simp [hn0, hn]) ⟨rfl, by simp [gateOk, k1, k2, k5, k3, k4, c1, c2, c3, c4]⟩
                · repeat' (first
                    | (refine sw_seq ?_) | (refine sw_block ?_) | (refine sw_skip ?_) | (refine sw_ret ?_) | (refine sw_exit ?_)
                    | (refine n_then ?_) | (refine r_then ?_) | (refine e_then ?_) | (refine n_block ?_) | (refine r_block ?_) | (refine e_block ?_) | (refine o_block rfl ?_)
                    | (refine sw_run (by simp [k1, k2, k5, k3, k4, c1, c2, c3]; exact Is.mk _) ?_)
                    | (refine sw_true (by simp [k1, k2, k5, k3, k4, c1, c2, c3]; exact Is.mk _) ?_) | (refine sw_false (by simp [k1, k2, k5, k3, k4, c1, c2, c3]; exact Is.mk _) ?_)
                    | (refine sw_yes (by simp; exact Is.mk _) (by assumption) ?_)
                    | (refine sw_no (by simp; exact Is.mk _) (by assumption) ?_)
                    | (refine sw_if (by simp; exact Is.mk _) (fun _ => ?_) (fun _ => ?_)))
                  refine sw_draw (us := [(2,5),(3,5)]) mixed (by kernel_rfl) (by kernel_rfl) (ds_all (by simp [k1, k2, k5, k3, k4, c1, c2, c3]; exact Is.mk _) (by simp [disAll, EDisj, wids, rids]) ?_)
                  repeat' (first
                    | (refine sw_seq ?_) | (refine sw_block ?_) | (refine sw_skip ?_) | (refine sw_ret ?_) | (refine sw_exit ?_)
                    | (refine n_then ?_) | (refine r_then ?_) | (refine e_then ?_) | (refine n_block ?_) | (refine r_block ?_) | (refine e_block ?_) | (refine o_block rfl ?_)
                    | (refine sw_run (by simp [k1, k2, k5, k3, k4, c1, c2, c3]; exact Is.mk _) ?_)
                    | (refine sw_true (by simp [k1, k2, k5, k3, k4, c1, c2, c3]; exact Is.mk _) ?_) | (refine sw_false (by simp [k1, k2, k5, k3, k4, c1, c2, c3]; exact Is.mk _) ?_)
                    | (refine sw_yes (by simp; exact Is.mk _) (by assumption) ?_)
                    | (refine sw_no (by simp; exact Is.mk _) (by assumption) ?_)
                    | (refine sw_if (by simp; exact Is.mk _) (fun _ => ?_) (fun _ => ?_)))
                  exact end_val (by simp; exact Is.mk _) (by simp [hn0, hn]) ⟨rfl, by simp [gateOk, k1, k2, k5, k3, k4, c1, c2, c3]⟩
              · repeat' (first
                  | (refine sw_seq ?_) | (refine sw_block ?_) | (refine sw_skip ?_) | (refine sw_ret ?_) | (refine sw_exit ?_)
                  | (refine n_then ?_) | (refine r_then ?_) | (refine e_then ?_) | (refine n_block ?_) | (refine r_block ?_) | (refine e_block ?_) | (refine o_block rfl ?_)
                  | (refine sw_run (by simp [k1, k2, k5, k3, k4, c1, c2]; exact Is.mk _) ?_)
                  | (refine sw_true (by simp [k1, k2, k5, k3, k4, c1, c2]; exact Is.mk _) ?_) | (refine sw_false (by simp [k1, k2, k5, k3, k4, c1, c2]; exact Is.mk _) ?_)
                  | (refine sw_yes (by simp; exact Is.mk _) (by assumption) ?_)
                  | (refine sw_no (by simp; exact Is.mk _) (by assumption) ?_)
                  | (refine sw_if (by simp; exact Is.mk _) (fun _ => ?_) (fun _ => ?_)))
                refine sw_draw (us := [(2,5),(3,5)]) mixed (by kernel_rfl) (by kernel_rfl) (ds_all (by simp [k1, k2, k5, k3, k4, c1, c2]; exact Is.mk _) (by simp [disAll, EDisj, wids, rids]) ?_)
                repeat' (first
                  | (refine sw_seq ?_) | (refine sw_block ?_) | (refine sw_skip ?_) | (refine sw_ret ?_) | (refine sw_exit ?_)
                  | (refine n_then ?_) | (refine r_then ?_) | (refine e_then ?_) | (refine n_block ?_) | (refine r_block ?_) | (refine e_block ?_) | (refine o_block rfl ?_)
                  | (refine sw_run (by simp [k1, k2, k5, k3, k4, c1, c2]; exact Is.mk _) ?_)
                  | (refine sw_true (by simp [k1, k2, k5, k3, k4, c1, c2]; exact Is.mk _) ?_) | (refine sw_false (by simp [k1, k2, k5, k3, k4, c1, c2]; exact Is.mk _) ?_)
                  | (refine sw_yes (by simp; exact Is.mk _) (by assumption) ?_)
                  | (refine sw_no (by simp; exact Is.mk _) (by assumption) ?_)
                  | (refine sw_if (by simp; exact Is.mk _) (fun _ => ?_) (fun _ => ?_)))
                exact end_val (by simp; exact Is.mk _) (by simp [hn0, hn]) ⟨rfl, by simp [gateOk, k1, k2, k5, k3, k4, c1, c2]⟩
            · repeat' (first
                | (refine sw_seq ?_) | (refine sw_block ?_) | (refine sw_skip ?_) | (refine sw_ret ?_) | (refine sw_exit ?_)
                | (refine n_then ?_) | (refine r_then ?_) | (refine e_then ?_) | (refine n_block ?_) | (refine r_block ?_) | (refine e_block ?_) | (refine o_block rfl ?_)
                | (refine sw_run (by simp [k1, k2, k5, k3, k4, c1]; exact Is.mk _) ?_)
                | (refine sw_true (by simp [k1, k2, k5, k3, k4, c1]; exact Is.mk _) ?_) | (refine sw_false (by simp [k1, k2, k5, k3, k4, c1]; exact Is.mk _) ?_)
                | (refine sw_yes (by simp; exact Is.mk _) (by assumption) ?_)
                | (refine sw_no (by simp; exact Is.mk _) (by assumption) ?_)
                | (refine sw_if (by simp; exact Is.mk _) (fun _ => ?_) (fun _ => ?_)))
              refine sw_draw (us := [(2,5),(3,5)]) mixed (by kernel_rfl) (by kernel_rfl) (ds_all (by simp [k1, k2, k5, k3, k4, c1]; exact Is.mk _) (by simp [disAll, EDisj, wids, rids]) ?_)
              repeat' (first
                | (refine sw_seq ?_) | (refine sw_block ?_) | (refine sw_skip ?_) | (refine sw_ret ?_) | (refine sw_exit ?_)
                | (refine n_then ?_) | (refine r_then ?_) | (refine e_then ?_) | (refine n_block ?_) | (refine r_block ?_) | (refine e_block ?_) | (refine o_block rfl ?_)
                | (refine sw_run (by simp [k1, k2, k5, k3, k4, c1]; exact Is.mk _) ?_)
                | (refine sw_true (by simp [k1, k2, k5, k3, k4, c1]; exact Is.mk _) ?_) | (refine sw_false (by simp [k1, k2, k5, k3, k4, c1]; exact Is.mk _) ?_)
                | (refine sw_yes (by simp; exact Is.mk _) (by assumption) ?_)
                | (refine sw_no (by simp; exact Is.mk _) (by assumption) ?_)
                | (refine sw_if (by simp; exact Is.mk _) (fun _ => ?_) (fun _ => ?_)))
              exact end_val (by simp; exact Is.mk _) (by simp [hn0, hn]) ⟨rfl, by simp [gateOk, k1, k2, k5, k3, k4, c1]⟩
          · skip
            by_cases k6 : g.kind = 6
            · by_cases c1 : g.frm = 0
              · by_cases c2 : g.k = 0
                · by_cases c3 : 0 ≤ g.a
                  · by_cases c4 : g.a < i
                    · by_cases c5 : 0 ≤ g.b
                      · repeat' (first
                          | (refine sw_seq ?_) | (refine sw_block ?_) | (refine sw_skip ?_) | (refine sw_ret ?_) | (refine sw_exit ?_)
                          | (refine n_then ?_) | (refine r_then ?_) | (refine e_then ?_) | (refine n_block ?_) | (refine r_block ?_) | (refine e_block ?_) | (refine o_block rfl ?_)
                          | (refine sw_run (by simp [k1, k2, k5, k3, k4, k6, c1, c2, c3, c4, c5]; exact Is.mk _) ?_)
                          | (refine sw_true (by simp [k1, k2, k5, k3, k4, k6, c1, c2, c3, c4, c5]; exact Is.mk _) ?_) | (refine sw_false (by simp [k1, k2, k5, k3, k4, k6, c1, c2, c3, c4, c5]; exact Is.mk _) ?_)
                          | (refine sw_yes (by simp; exact Is.mk _) (by assumption) ?_)
                          | (refine sw_no (by simp; exact Is.mk _) (by assumption) ?_)
                          | (refine sw_if (by simp; exact Is.mk _) (fun _ => ?_) (fun _ => ?_)))
                        refine sw_draw (us := [(2,5),(3,5)]) mixed (by kernel_rfl) (by kernel_rfl) (ds_all (by simp [k1, k2, k5, k3, k4, k6, c1, c2, c3, c4, c5]; exact Is.mk _) (by simp [disAll, EDisj, wids, rids]) ?_)
                        repeat' (first
                          | (refine sw_seq ?_) | (refine sw_block ?_) | (refine sw_skip ?_) | (refine sw_ret ?_) | (refine sw_exit ?_)
                          | (refine n_then ?_) | (refine r_then ?_) | (refine e_then ?_) | (refine n_block ?_) | (refine r_block ?_) | (refine e_block ?_) | (refine o_block rfl ?_)
                          | (refine sw_run (by simp [k1, k2, k5, k3, k4, k6, c1, c2, c3, c4, c5]; exact Is.mk _) ?_)
                          | (refine sw_true (by simp [k1, k2, k5, k3, k4, k6, c1, c2, c3, c4, c5]; exact Is.mk _) ?_) | (refine sw_false (by simp [k1, k2, k5, k3, k4, k6, c1, c2, c3, c4, c5]; exact Is.mk _) ?_)
                          | (refine sw_yes (by simp; exact Is.mk _) (by assumption) ?_)
                          | (refine sw_no (by simp; exact Is.mk _) (by assumption) ?_)
                          | (refine sw_if (by simp; exact Is.mk _) (fun _ => ?_) (fun _ => ?_)))
                        exact end_val (by simp; exact Is.mk _) (by simp [hn0, hn]) ⟨rfl, by simp [gateOk, k1, k2, k5, k3, k4, k6, c1, c2, c3, c4, c5]⟩
                      · repeat' (first
                          | (refine sw_seq ?_) | (refine sw_block ?_) | (refine sw_skip ?_) | (refine sw_ret ?_) | (refine sw_exit ?_)
                          | (refine n_then ?_) | (refine r_then ?_) | (refine e_then ?_) | (refine n_block ?_) | (refine r_block ?_) | (refine e_block ?_) | (refine o_block rfl ?_)
                          | (refine sw_run (by simp [k1, k2, k5, k3, k4, k6, c1, c2, c3, c4, c5]; exact Is.mk _) ?_)
                          | (refine sw_true (by simp [k1, k2, k5, k3, k4, k6, c1, c2, c3, c4, c5]; exact Is.mk _) ?_) | (refine sw_false (by simp [k1, k2, k5, k3, k4, k6, c1, c2, c3, c4, c5]; exact Is.mk _) ?_)
                          | (refine sw_yes (by simp; exact Is.mk _) (by assumption) ?_)
                          | (refine sw_no (by simp; exact Is.mk _) (by assumption) ?_)
                          | (refine sw_if (by simp; exact Is.mk _) (fun _ => ?_) (fun _ => ?_)))
                        refine sw_draw (us := [(2,5),(3,5)]) mixed (by kernel_rfl) (by kernel_rfl) (ds_all (by simp [k1, k2, k5, k3, k4, k6, c1, c2, c3, c4, c5]; exact Is.mk _) (by simp [disAll, EDisj, wids, rids]) ?_)
                        repeat' (first
                          | (refine sw_seq ?_) | (refine sw_block ?_) | (refine sw_skip ?_) | (refine sw_ret ?_) | (refine sw_exit ?_)
                          | (refine n_then ?_) | (refine r_then ?_) | (refine e_then ?_) | (refine n_block ?_) | (refine r_block ?_) | (refine e_block ?_) | (refine o_block rfl ?_)
                          | (refine sw_run (by simp [k1, k2, k5, k3, k4, k6, c1, c2, c3, c4, c5]; exact Is.mk _) ?_)
                          | (refine sw_true (by simp [k1, k2, k5, k3, k4, k6, c1, c2, c3, c4, c5]; exact Is.mk _) ?_) | (refine sw_false (by simp [k1, k2, k5, k3, k4, k6, c1, c2, c3, c4, c5]; exact Is.mk _) ?_)
                          | (refine sw_yes (by simp; exact Is.mk _) (by assumption) ?_)
                          | (refine sw_no (by simp; exact Is.mk _) (by assumption) ?_)
                          | (refine sw_if (by simp; exact Is.mk _) (fun _ => ?_) (fun _ => ?_)))
                        exact end_val (by simp; exact Is.mk _) (by simp [hn0, hn]) ⟨rfl, by simp [gateOk, k1, k2, k5, k3, k4, k6, c1, c2, c3, c4, c5]⟩
                    · repeat' (first
                        | (refine sw_seq ?_) | (refine sw_block ?_) | (refine sw_skip ?_) | (refine sw_ret ?_) | (refine sw_exit ?_)
                        | (refine n_then ?_) | (refine r_then ?_) | (refine e_then ?_) | (refine n_block ?_) | (refine r_block ?_) | (refine e_block ?_) | (refine o_block rfl ?_)
                        | (refine sw_run (by simp [k1, k2, k5, k3, k4, k6, c1, c2, c3, c4]; exact Is.mk _) ?_)
                        | (refine sw_true (by simp [k1, k2, k5, k3, k4, k6, c1, c2, c3, c4]; exact Is.mk _) ?_) | (refine sw_false (by simp [k1, k2, k5, k3, k4, k6, c1, c2, c3, c4]; exact Is.mk _) ?_)
                        | (refine sw_yes (by simp; exact Is.mk _) (by assumption) ?_)
                        | (refine sw_no (by simp; exact Is.mk _) (by assumption) ?_)
                        | (refine sw_if (by simp; exact Is.mk _) (fun _ => ?_) (fun _ => ?_)))
                      refine sw_draw (us := [(2,5),(3,5)]) mixed (by kernel_rfl) (by kernel_rfl) (ds_all (by simp [k1, k2, k5, k3, k4, k6, c1, c2, c3, c4]; exact Is.mk _) (by simp [disAll, EDisj, wids, rids]) ?_)
                      repeat' (first
                        | (refine sw_seq ?_) | (refine sw_block ?_) | (refine sw_skip ?_) | (refine sw_ret ?_) | (refine sw_exit ?_)
                        | (refine n_then ?_) | (refine r_then ?_) | (refine e_then ?_) | (refine n_block ?_) | (refine r_block ?_) | (refine e_block ?_) | (refine o_block rfl ?_)
                        | (refine sw_run (by simp [k1, k2, k5, k3, k4, k6, c1, c2, c3, c4]; exact Is.mk _) ?_)
                        | (refine sw_true (by simp [k1, k2, k5, k3, k4, k6, c1, c2, c3, c4]; exact Is.mk _) ?_) | (refine sw_false (by simp [k1, k2, k5, k3, k4, k6, c1, c2, c3, c4]; exact Is.mk _) ?_)
                        | (refine sw_yes (by simp; exact Is.mk _) (by assumption) ?_)
                        | (refine sw_no (by simp; exact Is.mk _) (by assumption) ?_)
                        | (refine sw_if (by simp; exact Is.mk _) (fun _ => ?_) (fun _ => ?_)))
                      exact end_val (by simp; exact Is.mk _) (by simp [hn0, hn]) ⟨rfl, by simp [gateOk, k1, k2, k5, k3, k4, k6, c1, c2, c3, c4]⟩
                  · repeat' (first
                      | (refine sw_seq ?_) | (refine sw_block ?_) | (refine sw_skip ?_) | (refine sw_ret ?_) | (refine sw_exit ?_)
                      | (refine n_then ?_) | (refine r_then ?_) | (refine e_then ?_) | (refine n_block ?_) | (refine r_block ?_) | (refine e_block ?_) | (refine o_block rfl ?_)
                      | (refine sw_run (by simp [k1, k2, k5, k3, k4, k6, c1, c2, c3]; exact Is.mk _) ?_)
                      | (refine sw_true (by simp [k1, k2, k5, k3, k4, k6, c1, c2, c3]; exact Is.mk _) ?_) | (refine sw_false (by simp [k1, k2, k5, k3, k4, k6, c1, c2, c3]; exact Is.mk _) ?_)
                      | (refine sw_yes (by simp; exact Is.mk _) (by assumption) ?_)
                      | (refine sw_no (by simp; exact Is.mk _) (by assumption) ?_)
                      | (refine sw_if (by simp; exact Is.mk _) (fun _ => ?_) (fun _ => ?_)))
                    refine sw_draw (us := [(2,5),(3,5)]) mixed (by kernel_rfl) (by kernel_rfl) (ds_all (by simp [k1, k2, k5, k3, k4, k6, c1, c2, c3]; exact Is.mk _) (by simp [disAll, EDisj, wids, rids]) ?_)
                    repeat' (first
                      | (refine sw_seq ?_) | (refine sw_block ?_) | (refine sw_skip ?_) | (refine sw_ret ?_) | (refine sw_exit ?_)
                      | (refine n_then ?_) | (refine r_then ?_) | (refine e_then ?_) | (refine n_block ?_) | (refine r_block ?_) | (refine e_block ?_) | (refine o_block rfl ?_)
                      | (refine sw_run (by simp [k1, k2, k5, k3, k4, k6, c1, c2, c3]; exact Is.mk _) ?_)
                      | (refine sw_true (by simp [k1, k2, k5, k3, k4, k6, c1, c2, c3]; exact Is.mk _) ?_) | (refine sw_false (by simp [k1, k2, k5, k3, k4, k6, c1, c2, c3]; exact Is.mk _) ?_)
                      | (refine sw_yes (by simp; exact Is.mk _) (by assumption) ?_)
                      | (refine sw_no (by simp; exact Is.mk _) (by assumption) ?_)
                      | (refine sw_if (by simp; exact Is.mk _) (fun _ => ?_) (fun _ => ?_)))
                    exact end_val (by simp; exact Is.mk _) (by simp [hn0, hn]) ⟨rfl, by simp [gateOk, k1, k2, k5, k3, k4, k6, c1, c2, c3]⟩
                · repeat' (first
                    | (refine sw_seq ?_) | (refine sw_block ?_) | (refine sw_skip ?_) | (refine sw_ret ?_) | (refine sw_exit ?_)
                    | (refine n_then ?_) | (refine r_then ?_) | (refine e_then ?_) | (refine n_block ?_) | (refine r_block ?_) | (refine e_block ?_) | (refine o_block rfl ?_)
                    | (refine sw_run (by simp [k1, k2, k5, k3, k4, k6, c1, c2]; exact Is.mk _) ?_)
                    | (refine sw_true (by simp [k1, k2, k5, k3, k4, k6, c1, c2]; exact Is.mk _) ?_) | (refine sw_false (by simp [k1, k2, k5, k3, k4, k6, c1, c2]; exact Is.mk _) ?_)
                    | (refine sw_yes (by simp; exact Is.mk _) (by assumption) ?_)
                    | (refine sw_no (by simp; exact Is.mk _) (by assumption) ?_)
                    | (refine sw_if (by simp; exact Is.mk _) (fun _ => ?_) (fun _ => ?_)))
                  refine sw_draw (us := [(2,5),(3,5)]) mixed (by kernel_rfl) (by kernel_rfl) (ds_all (by simp [k1, k2, k5, k3, k4, k6, c1, c2]; exact Is.mk _) (by simp [disAll, EDisj, wids, rids]) ?_)
                  repeat' (first
                    | (refine sw_seq ?_) | (refine sw_block ?_) | (refine sw_skip ?_) | (refine sw_ret ?_) | (refine sw_exit ?_)
                    | (refine n_then ?_) | (refine r_then ?_) | (refine e_then ?_) | (refine n_block ?_) | (refine r_block ?_) | (refine e_block ?_) | (refine o_block rfl ?_)
                    | (refine sw_run (by simp [k1, k2, k5, k3, k4, k6, c1, c2]; exact Is.mk _) ?_)
                    | (refine sw_true (by simp [k1, k2, k5, k3, k4, k6, c1, c2]; exact Is.mk _) ?_) | (refine sw_false (by simp [k1, k2, k5, k3, k4, k6, c1, c2]; exact Is.mk _) ?_)
                    | (refine sw_yes (by simp; exact Is.mk _) (by assumption) ?_)
                    | (refine sw_no (by simp; exact Is.mk _) (by assumption) ?_)
                    | (refine sw_if (by simp; exact Is.mk _) (fun _ => ?_) (fun _ => ?_)))
                  exact end_val (by simp; exact Is.mk _) (by simp [hn0, hn]) ⟨rfl, by simp [gateOk, k1, k2, k5, k3, k4, k6, c1, c2]⟩
              · repeat' (first
                  | (refine sw_seq ?_) | (refine sw_block ?_) | (refine sw_skip ?_) | (refine sw_ret ?_) | (refine sw_exit ?_)
                  | (refine n_then ?_) | (refine r_then ?_) | (refine e_then ?_) | (refine n_block ?_) | (refine r_block ?_) | (refine e_block ?_) | (refine o_block rfl ?_)
                  | (refine sw_run (by simp [k1, k2, k5, k3, k4, k6, c1]; exact Is.mk _) ?_)
                  | (refine sw_true (by simp [k1, k2, k5, k3, k4, k6, c1]; exact Is.mk _) ?_) | (refine sw_false (by simp [k1, k2, k5, k3, k4, k6, c1]; exact Is.mk _) ?_)
                  | (refine sw_yes (by simp; exact Is.mk _) (by assumption) ?_)
                  | (refine sw_no (by simp; exact Is.mk _) (by assumption) ?_)
                  | (refine sw_if (by simp; exact Is.mk _) (fun _ => ?_) (fun _ => ?_)))
                refine sw_draw (us := [(2,5),(3,5)]) mixed (by kernel_rfl) (by kernel_rfl) (ds_all (by simp [k1, k2, k5, k3, k4, k6, c1]; exact Is.mk _) (by simp [disAll, EDisj, wids, rids]) ?_)
                repeat' (first
                  | (refine sw_seq ?_) | (refine sw_block ?_) | (refine sw_skip ?_) | (refine sw_ret ?_) | (refine sw_exit ?_)
                  | (refine n_then ?_) | (refine r_then ?_) | (refine e_then ?_) | (refine n_block ?_) | (refine r_block ?_) | (refine e_block ?_) | (refine o_block rfl ?_)
                  | (refine sw_run (by simp [k1, k2, k5, k3, k4, k6, c1]; exact Is.mk _) ?_)
                  | (refine sw_true (by simp [k1, k2, k5, k3, k4, k6, c1]; exact Is.mk _) ?_) | (refine sw_false (by simp [k1, k2, k5, k3, k4, k6, c1]; exact Is.mk _) ?_)
                  | (refine sw_yes (by simp; exact Is.mk _) (by assumption) ?_)
                  | (refine sw_no (by simp; exact Is.mk _) (by assumption) ?_)
                  | (refine sw_if (by simp; exact Is.mk _) (fun _ => ?_) (fun _ => ?_)))
                exact end_val (by simp; exact Is.mk _) (by simp [hn0, hn]) ⟨rfl, by simp [gateOk, k1, k2, k5, k3, k4, k6, c1]⟩
            · skip
              repeat' (first
                | (refine sw_seq ?_) | (refine sw_block ?_) | (refine sw_skip ?_) | (refine sw_ret ?_) | (refine sw_exit ?_)
                | (refine n_then ?_) | (refine r_then ?_) | (refine e_then ?_) | (refine n_block ?_) | (refine r_block ?_) | (refine e_block ?_) | (refine o_block rfl ?_)
                | (refine sw_run (by simp [k1, k2, k5, k3, k4, k6]; exact Is.mk _) ?_)
                | (refine sw_true (by simp [k1, k2, k5, k3, k4, k6]; exact Is.mk _) ?_) | (refine sw_false (by simp [k1, k2, k5, k3, k4, k6]; exact Is.mk _) ?_)
                | (refine sw_yes (by simp; exact Is.mk _) (by assumption) ?_)
                | (refine sw_no (by simp; exact Is.mk _) (by assumption) ?_)
                | (refine sw_if (by simp; exact Is.mk _) (fun _ => ?_) (fun _ => ?_)))
              exact end_val (by simp; exact Is.mk _) (by simp [hn0, hn]) ⟨rfl, by simp [gateOk, k1, k2, k5, k3, k4, k6]⟩

end Go.AM
