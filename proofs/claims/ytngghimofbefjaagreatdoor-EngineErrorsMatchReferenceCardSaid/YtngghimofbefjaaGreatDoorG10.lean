/- The reference's check of the inputs. -/
import Derived.Test.YtngghimofbefjaaGreatDoorG3
import Derived.Test.YtngghimofbefjaaGreatDoorG9
namespace Go.AM
set_option linter.unusedVariables false
set_option linter.unusedSimpArgs false
open Go Go.RowKit Go.Proofs

def frmOk (m : Int) : List Gate → Bool
  | [] => true
  | g :: r => !(decide (g.kind = 1) && decide (m < g.frm)) && frmOk m r
def insOk (p : Int) (gs : List Gate) : List (List Int) → Nat → Bool
  | [], _ => true
  | x :: r, i => decide ((x.length : Int) = (cnt (isIn ((i : Int) + 1)) gs : Int)) && belowL p x && insOk p gs r (i + 1)
def takenOk (p : Int) (gs : List Gate) (m : Int) (xs : List (List Int)) : Bool := decide ((xs.length : Int) = m) && frmOk m gs && insOk p gs xs 0

set_option maxHeartbeats 2000000 in
theorem rtaken_spec (p : Int) (gs : List Gate) (os : List Int) (m : Int) (xs : List (List Int)) (hl : Small gs.length) (hx : Small xs.length) :
    Pure Tryz.prog 15 [circA p gs os, ai m, .p (.sl 1 (wrows xs))] (ab (takenOk p gs m xs)) := by
  refine pure_of Tryz.func15 rfl Tryz.ntmps15 (by simp) fun F n hF hn hn0 => ?_
  unfold takenOk circA
  by_cases h1 : (xs.length : Int) = m
  · repeat' (first
      | (refine sw_seq ?_) | (refine sw_block ?_) | (refine sw_skip ?_) | (refine sw_ret ?_) | (refine sw_exit ?_)
      | (refine n_then ?_) | (refine r_then ?_) | (refine e_then ?_) | (refine n_block ?_) | (refine r_block ?_) | (refine e_block ?_) | (refine o_block rfl ?_)
      | (refine sw_run (by simp [-getElem?_pos, List.getElem?_cons_zero, List.getElem?_cons_succ, h1]; exact Is.mk _) ?_)
      | (refine sw_true (by simp [-getElem?_pos, List.getElem?_cons_zero, List.getElem?_cons_succ, h1]; exact Is.mk _) ?_) | (refine sw_false (by simp [-getElem?_pos, List.getElem?_cons_zero, List.getElem?_cons_succ, h1]; exact Is.mk _) ?_)
      | (refine sw_yes (by simp; exact Is.mk _) (by assumption) ?_)
      | (refine sw_no (by simp; exact Is.mk _) (by assumption) ?_)
      | (refine sw_if (by simp; exact Is.mk _) (fun _ => ?_) (fun _ => ?_)))
    refine sw_loopI (α := Nat) (fun k => [(1, ai m), (2, .p (.sl 1 (wrows xs))), (3, .ptr n 0 0 0), (7, ai k)]) (fun _ => [(n, circB p gs os)]) (fun _ => n + 1)
      (fun k => k ≤ gs.length ∧ frmOk m (gs.drop k) = frmOk m gs) (fun k => gs.length - k) 0 ⟨Nat.zero_le _, rfl⟩ ?_ ?_ ?_
    · intro _
      exact weak_cut_hp (by simp) (by simp) (by simp)
    · intro x
      exact fresh_of hF (by omega) (by simp)
    · rintro k ⟨hk, hR⟩
      by_cases hlt : k < gs.length
      · obtain ⟨g, hg⟩ := get_lt hlt
        have hw := wrap_succ hlt hl
        rw [drop_cons hg] at hR
        simp only [frmOk] at hR
        by_cases c1 : g.kind = 1
        · by_cases c2 : m < g.frm
          · repeat' (first
              | (refine sw_seq ?_) | (refine sw_block ?_) | (refine sw_skip ?_) | (refine sw_ret ?_) | (refine sw_exit ?_)
              | (refine n_then ?_) | (refine r_then ?_) | (refine e_then ?_) | (refine n_block ?_) | (refine r_block ?_) | (refine e_block ?_) | (refine o_block rfl ?_)
              | (refine sw_run (by simp [-getElem?_pos, List.getElem?_cons_zero, List.getElem?_cons_succ, hg, gateC, hw, hlt, c1, c2]; exact Is.mk _) ?_)
              | (refine sw_true (by simp [-getElem?_pos, List.getElem?_cons_zero, List.getElem?_cons_succ, hg, gateC, hw, hlt, c1, c2]; exact Is.mk _) ?_) | (refine sw_false (by simp [-getElem?_pos, List.getElem?_cons_zero, List.getElem?_cons_succ, hg, gateC, hw, hlt, c1, c2]; exact Is.mk _) ?_)
              | (refine sw_yes (by simp; exact Is.mk _) (by assumption) ?_)
              | (refine sw_no (by simp; exact Is.mk _) (by assumption) ?_)
              | (refine sw_if (by simp; exact Is.mk _) (fun _ => ?_) (fun _ => ?_)))
            exact end_val (by simp; exact Is.mk _) (by simp [hn0, hn]) ⟨rfl, by simp [← hR, c1, c2]⟩
          · repeat' (first
              | (refine sw_seq ?_) | (refine sw_block ?_) | (refine sw_skip ?_) | (refine sw_ret ?_) | (refine sw_exit ?_)
              | (refine n_then ?_) | (refine r_then ?_) | (refine e_then ?_) | (refine n_block ?_) | (refine r_block ?_) | (refine e_block ?_) | (refine o_block rfl ?_)
              | (refine sw_run (by simp [-getElem?_pos, List.getElem?_cons_zero, List.getElem?_cons_succ, hg, gateC, hw, hlt, c1, c2]; exact Is.mk _) ?_)
              | (refine sw_true (by simp [-getElem?_pos, List.getElem?_cons_zero, List.getElem?_cons_succ, hg, gateC, hw, hlt, c1, c2]; exact Is.mk _) ?_) | (refine sw_false (by simp [-getElem?_pos, List.getElem?_cons_zero, List.getElem?_cons_succ, hg, gateC, hw, hlt, c1, c2]; exact Is.mk _) ?_)
              | (refine sw_yes (by simp; exact Is.mk _) (by assumption) ?_)
              | (refine sw_no (by simp; exact Is.mk _) (by assumption) ?_)
              | (refine sw_if (by simp; exact Is.mk _) (fun _ => ?_) (fun _ => ?_)))
            exact ⟨k + 1, ⟨by omega, by simpa [c1, c2] using hR⟩, by omega, weak_cut_hp (by simp) (by simp) (by simp)⟩
        · repeat' (first
            | (refine sw_seq ?_) | (refine sw_block ?_) | (refine sw_skip ?_) | (refine sw_ret ?_) | (refine sw_exit ?_)
            | (refine n_then ?_) | (refine r_then ?_) | (refine e_then ?_) | (refine n_block ?_) | (refine r_block ?_) | (refine e_block ?_) | (refine o_block rfl ?_)
            | (refine sw_run (by simp [-getElem?_pos, List.getElem?_cons_zero, List.getElem?_cons_succ, hg, gateC, hw, hlt, c1]; exact Is.mk _) ?_)
            | (refine sw_true (by simp [-getElem?_pos, List.getElem?_cons_zero, List.getElem?_cons_succ, hg, gateC, hw, hlt, c1]; exact Is.mk _) ?_) | (refine sw_false (by simp [-getElem?_pos, List.getElem?_cons_zero, List.getElem?_cons_succ, hg, gateC, hw, hlt, c1]; exact Is.mk _) ?_)
            | (refine sw_yes (by simp; exact Is.mk _) (by assumption) ?_)
            | (refine sw_no (by simp; exact Is.mk _) (by assumption) ?_)
            | (refine sw_if (by simp; exact Is.mk _) (fun _ => ?_) (fun _ => ?_)))
          exact ⟨k + 1, ⟨by omega, by simpa [c1] using hR⟩, by omega, weak_cut_hp (by simp) (by simp) (by simp)⟩
      · obtain rfl : k = gs.length := by omega
        simp only [List.drop_length, frmOk] at hR
        repeat' (first
          | (refine sw_seq ?_) | (refine sw_block ?_) | (refine sw_skip ?_) | (refine sw_ret ?_) | (refine sw_exit ?_)
          | (refine n_then ?_) | (refine r_then ?_) | (refine e_then ?_) | (refine n_block ?_) | (refine r_block ?_) | (refine e_block ?_) | (refine o_block rfl ?_)
          | (refine sw_run (by simp [-getElem?_pos, List.getElem?_cons_zero, List.getElem?_cons_succ, ]; exact Is.mk _) ?_)
          | (refine sw_true (by simp [-getElem?_pos, List.getElem?_cons_zero, List.getElem?_cons_succ, ]; exact Is.mk _) ?_) | (refine sw_false (by simp [-getElem?_pos, List.getElem?_cons_zero, List.getElem?_cons_succ, ]; exact Is.mk _) ?_)
          | (refine sw_yes (by simp; exact Is.mk _) (by assumption) ?_)
          | (refine sw_no (by simp; exact Is.mk _) (by assumption) ?_)
          | (refine sw_if (by simp; exact Is.mk _) (fun _ => ?_) (fun _ => ?_)))
        refine sw_loopI (α := Nat) (fun k => [(1, ai m), (2, .p (.sl 1 (wrows xs))), (3, .ptr n 0 0 0), (8, ai k)]) (fun _ => [(n, circB p gs os)]) (fun _ => n + 1)
          (fun k => k ≤ xs.length ∧ insOk p gs (xs.drop k) k = insOk p gs xs 0) (fun k => xs.length - k) 0 ⟨Nat.zero_le _, rfl⟩ ?_ ?_ ?_
        · intro _
          exact weak_cut_hp (by simp) (by simp) (by simp)
        · intro x
          exact fresh_of hF (by omega) (by simp)
        · rintro k ⟨hk, hR2⟩
          by_cases hlt : k < xs.length
          · obtain ⟨x, hx'⟩ := get_lt hlt
            have hw := wrap_succ hlt hx
            have hkm : (k : Int) < m := by omega
            have hw' : IntKind.i64.wrap ((k : Int) + 1) = (k : Int) + 1 := by rw [hw]; simp
            rw [drop_cons hx'] at hR2
            simp only [insOk] at hR2
            repeat' (first
              | (refine sw_seq ?_) | (refine sw_block ?_) | (refine sw_skip ?_) | (refine sw_ret ?_) | (refine sw_exit ?_)
              | (refine n_then ?_) | (refine r_then ?_) | (refine e_then ?_) | (refine n_block ?_) | (refine r_block ?_) | (refine e_block ?_) | (refine o_block rfl ?_)
              | (refine sw_run (by simp [-getElem?_pos, List.getElem?_cons_zero, List.getElem?_cons_succ, hkm]; exact Is.mk _) ?_)
              | (refine sw_true (by simp [-getElem?_pos, List.getElem?_cons_zero, List.getElem?_cons_succ, hkm]; exact Is.mk _) ?_) | (refine sw_false (by simp [-getElem?_pos, List.getElem?_cons_zero, List.getElem?_cons_succ, hkm]; exact Is.mk _) ?_)
              | (refine sw_yes (by simp; exact Is.mk _) (by assumption) ?_)
              | (refine sw_no (by simp; exact Is.mk _) (by assumption) ?_)
              | (refine sw_if (by simp; exact Is.mk _) (fun _ => ?_) (fun _ => ?_)))
            refine sw_draw (us := [(0,8),(1,8),(2,8),(3,8),(4,8)]) mixed (by kernel_rfl) (by kernel_rfl) ?_
            repeat (refine ds_op rfl (by simp [-getElem?_pos, List.getElem?_cons_zero, List.getElem?_cons_succ, hx', hw', hkm, hlt]; exact Is.mk _) ?_)
            refine ds_pure_g rfl (by simp [-getElem?_pos, List.getElem?_cons_zero, List.getElem?_cons_succ, hx', hw', hkm, hlt]; exact Is.mk _) rfl (by simp [-getElem?_pos, List.getElem?_cons_zero, List.getElem?_cons_succ]; exact Is.mk _) (by kernel_rfl) (rinput_spec p gs os ((k : Int) + 1) hl) ?_
            by_cases c1 : (x.length : Int) = (cnt (isIn ((k : Int) + 1)) gs : Int)
            · repeat (refine ds_op rfl (by simp [-getElem?_pos, List.getElem?_cons_zero, List.getElem?_cons_succ, hx', c1, hlt]; exact Is.mk _) ?_)
              refine ds_pure_g rfl (by simp [-getElem?_pos, List.getElem?_cons_zero, List.getElem?_cons_succ, hx', c1, hlt]; exact Is.mk _) rfl (by simp [-getElem?_pos, List.getElem?_cons_zero, List.getElem?_cons_succ]; exact Is.mk _) (by kernel_rfl) (below_spec p x (hl.le (by have := List.countP_le_length (p := isIn ((k : Int) + 1)) (l := gs); unfold cnt at c1; omega))) ?_
              cases hb : belowL p x
              · refine ds_all (by simp [-getElem?_pos, List.getElem?_cons_zero, List.getElem?_cons_succ, ]; exact Is.mk _) (disAll_quiet (by simp)) ?_
                repeat' (first
                  | (refine sw_seq ?_) | (refine sw_block ?_) | (refine sw_skip ?_) | (refine sw_ret ?_) | (refine sw_exit ?_)
                  | (refine n_then ?_) | (refine r_then ?_) | (refine e_then ?_) | (refine n_block ?_) | (refine r_block ?_) | (refine e_block ?_) | (refine o_block rfl ?_)
                  | (refine sw_run (by simp [-getElem?_pos, List.getElem?_cons_zero, List.getElem?_cons_succ, ]; exact Is.mk _) ?_)
                  | (refine sw_true (by simp [-getElem?_pos, List.getElem?_cons_zero, List.getElem?_cons_succ, ]; exact Is.mk _) ?_) | (refine sw_false (by simp [-getElem?_pos, List.getElem?_cons_zero, List.getElem?_cons_succ, ]; exact Is.mk _) ?_)
                  | (refine sw_yes (by simp; exact Is.mk _) (by assumption) ?_)
                  | (refine sw_no (by simp; exact Is.mk _) (by assumption) ?_)
                  | (refine sw_if (by simp; exact Is.mk _) (fun _ => ?_) (fun _ => ?_)))
                exact end_val (by simp; exact Is.mk _) (by simp [hn0, hn]) ⟨rfl, by simp [← hR, ← hR2, hb, h1]⟩
              · refine ds_all (by simp [-getElem?_pos, List.getElem?_cons_zero, List.getElem?_cons_succ, ]; exact Is.mk _) (disAll_quiet (by simp)) ?_
                repeat' (first
                  | (refine sw_seq ?_) | (refine sw_block ?_) | (refine sw_skip ?_) | (refine sw_ret ?_) | (refine sw_exit ?_)
                  | (refine n_then ?_) | (refine r_then ?_) | (refine e_then ?_) | (refine n_block ?_) | (refine r_block ?_) | (refine e_block ?_) | (refine o_block rfl ?_)
                  | (refine sw_run (by simp [-getElem?_pos, List.getElem?_cons_zero, List.getElem?_cons_succ, hw]; exact Is.mk _) ?_)
                  | (refine sw_true (by simp [-getElem?_pos, List.getElem?_cons_zero, List.getElem?_cons_succ, hw]; exact Is.mk _) ?_) | (refine sw_false (by simp [-getElem?_pos, List.getElem?_cons_zero, List.getElem?_cons_succ, hw]; exact Is.mk _) ?_)
                  | (refine sw_yes (by simp; exact Is.mk _) (by assumption) ?_)
                  | (refine sw_no (by simp; exact Is.mk _) (by assumption) ?_)
                  | (refine sw_if (by simp; exact Is.mk _) (fun _ => ?_) (fun _ => ?_)))
                exact ⟨k + 1, ⟨by omega, by simpa [hb, c1] using hR2⟩, by omega, weak_cut_hp (by simp) (by simp) (by simp)⟩
            · refine ds_all (by simp [-getElem?_pos, List.getElem?_cons_zero, List.getElem?_cons_succ, c1]; exact Is.mk _) (disAll_quiet (by simp)) ?_
              repeat' (first
                | (refine sw_seq ?_) | (refine sw_block ?_) | (refine sw_skip ?_) | (refine sw_ret ?_) | (refine sw_exit ?_)
                | (refine n_then ?_) | (refine r_then ?_) | (refine e_then ?_) | (refine n_block ?_) | (refine r_block ?_) | (refine e_block ?_) | (refine o_block rfl ?_)
                | (refine sw_run (by simp [-getElem?_pos, List.getElem?_cons_zero, List.getElem?_cons_succ, ]; exact Is.mk _) ?_)
                | (refine sw_true (by simp [-getElem?_pos, List.getElem?_cons_zero, List.getElem?_cons_succ, ]; exact Is.mk _) ?_) | (refine sw_false (by simp [-getElem?_pos, List.getElem?_cons_zero, List.getElem?_cons_succ, ]; exact Is.mk _) ?_)
                | (refine sw_yes (by simp; exact Is.mk _) (by assumption) ?_)
                | (refine sw_no (by simp; exact Is.mk _) (by assumption) ?_)
                | (refine sw_if (by simp; exact Is.mk _) (fun _ => ?_) (fun _ => ?_)))
              exact end_val (by simp; exact Is.mk _) (by simp [hn0, hn]) ⟨rfl, by simp [← hR, ← hR2, c1, h1]⟩
          · obtain rfl : k = xs.length := by omega
            simp only [List.drop_length, insOk] at hR2
            repeat' (first
              | (refine sw_seq ?_) | (refine sw_block ?_) | (refine sw_skip ?_) | (refine sw_ret ?_) | (refine sw_exit ?_)
              | (refine n_then ?_) | (refine r_then ?_) | (refine e_then ?_) | (refine n_block ?_) | (refine r_block ?_) | (refine e_block ?_) | (refine o_block rfl ?_)
              | (refine sw_run (by simp [-getElem?_pos, List.getElem?_cons_zero, List.getElem?_cons_succ, h1]; exact Is.mk _) ?_)
              | (refine sw_true (by simp [-getElem?_pos, List.getElem?_cons_zero, List.getElem?_cons_succ, h1]; exact Is.mk _) ?_) | (refine sw_false (by simp [-getElem?_pos, List.getElem?_cons_zero, List.getElem?_cons_succ, h1]; exact Is.mk _) ?_)
              | (refine sw_yes (by simp; exact Is.mk _) (by assumption) ?_)
              | (refine sw_no (by simp; exact Is.mk _) (by assumption) ?_)
              | (refine sw_if (by simp; exact Is.mk _) (fun _ => ?_) (fun _ => ?_)))
            exact end_val (by simp; exact Is.mk _) (by simp [hn0, hn]) ⟨rfl, by simp [← hR, ← hR2, h1]⟩
  · repeat' (first
      | (refine sw_seq ?_) | (refine sw_block ?_) | (refine sw_skip ?_) | (refine sw_ret ?_) | (refine sw_exit ?_)
      | (refine n_then ?_) | (refine r_then ?_) | (refine e_then ?_) | (refine n_block ?_) | (refine r_block ?_) | (refine e_block ?_) | (refine o_block rfl ?_)
      | (refine sw_run (by simp [-getElem?_pos, List.getElem?_cons_zero, List.getElem?_cons_succ, h1]; exact Is.mk _) ?_)
      | (refine sw_true (by simp [-getElem?_pos, List.getElem?_cons_zero, List.getElem?_cons_succ, h1]; exact Is.mk _) ?_) | (refine sw_false (by simp [-getElem?_pos, List.getElem?_cons_zero, List.getElem?_cons_succ, h1]; exact Is.mk _) ?_)
      | (refine sw_yes (by simp; exact Is.mk _) (by assumption) ?_)
      | (refine sw_no (by simp; exact Is.mk _) (by assumption) ?_)
      | (refine sw_if (by simp; exact Is.mk _) (fun _ => ?_) (fun _ => ?_)))
    exact end_val (by simp; exact Is.mk _) (by simp [hn0, hn]) ⟨rfl, by simp [h1]⟩

end Go.AM
