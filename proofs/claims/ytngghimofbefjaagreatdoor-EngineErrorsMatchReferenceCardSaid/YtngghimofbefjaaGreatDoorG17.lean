/- The program's check of the inputs. -/
import Derived.Test.YtngghimofbefjaaGreatDoorG16
namespace Go.AM
set_option linter.unusedVariables false
set_option linter.unusedSimpArgs false
open Go Go.RowKit Go.Proofs

set_option maxHeartbeats 2000000 in
theorem ftaken_spec (p' N t p : Int) (gs : List Gate) (os : List Int) (xs : List (List Int)) (hl : Small gs.length) (hx : Small xs.length) :
    Pure Tryz.prog 78 [parA p' N t, circA p gs os, .p (.sl 1 (wrows xs))] (ab (decide ((xs.length : Int) = N) && insOk p gs xs 0)) := by
  refine pure_of Tryz.func78 rfl Tryz.ntmps78 (by simp) fun F n hF hn hn0 => ?_
  unfold circA
  by_cases h1 : (xs.length : Int) = N
  · repeat' (first
      | (refine sw_seq ?_) | (refine sw_block ?_) | (refine sw_skip ?_) | (refine sw_ret ?_) | (refine sw_exit ?_)
      | (refine n_then ?_) | (refine r_then ?_) | (refine e_then ?_) | (refine n_block ?_) | (refine r_block ?_) | (refine e_block ?_) | (refine o_block rfl ?_)
      | (refine sw_run (by simp [-getElem?_pos, List.getElem?_cons_zero, List.getElem?_cons_succ, h1]; exact Is.mk _) ?_)
      | (refine sw_true (by simp [-getElem?_pos, List.getElem?_cons_zero, List.getElem?_cons_succ, h1]; exact Is.mk _) ?_) | (refine sw_false (by simp [-getElem?_pos, List.getElem?_cons_zero, List.getElem?_cons_succ, h1]; exact Is.mk _) ?_)
      | (refine sw_yes (by simp; exact Is.mk _) (by assumption) ?_)
      | (refine sw_no (by simp; exact Is.mk _) (by assumption) ?_)
      | (refine sw_if (by simp; exact Is.mk _) (fun _ => ?_) (fun _ => ?_)))
    refine sw_loopI (α := Nat) (fun k => [(2, .p (.sl 1 (wrows xs))), (3, .ptr n 0 0 0), (4, .ptr (n + 1) 0 0 0), (14, .p (.sl 1 (wrows xs))), (15, ai xs.length), (16, ai k)]) (fun _ => [(n + 1, circB p gs os), (n, .row 0 24 3 [[au p', ai N, ai t]])]) (fun _ => n + 2)
      (fun k => k ≤ xs.length ∧ insOk p gs (xs.drop k) k = insOk p gs xs 0) (fun k => xs.length - k) 0 ⟨Nat.zero_le _, rfl⟩ ?_ ?_ ?_
    · intro _
      exact weak_cut_hp (by simp [h1]) (by simp) (by simp)
    · intro x
      exact fresh_of hF (by omega) (by simp)
    · rintro k ⟨hk, hR2⟩
      by_cases hlt : k < xs.length
      · obtain ⟨x, hx'⟩ := get_lt hlt
        have hw := wrap_succ hlt hx
        have hw' : IntKind.i64.wrap ((k : Int) + 1) = (k : Int) + 1 := by rw [hw]; simp
        rw [drop_cons hx'] at hR2
        simp only [insOk] at hR2
        repeat' (first
          | (refine sw_seq ?_) | (refine sw_block ?_) | (refine sw_skip ?_)
          | (refine n_then ?_) | (refine r_then ?_) | (refine e_then ?_) | (refine n_block ?_) | (refine r_block ?_) | (refine e_block ?_) | (refine o_block rfl ?_)
          | (refine sw_run (by simp [-getElem?_pos, List.getElem?_cons_zero, List.getElem?_cons_succ, hlt, hx']; exact Is.mk _) ?_) | fail)
        first
          | (refine sw_true (by simp [-getElem?_pos, List.getElem?_cons_zero, List.getElem?_cons_succ, hlt]; exact Is.mk _) ?_) | (refine sw_false (by simp [-getElem?_pos, List.getElem?_cons_zero, List.getElem?_cons_succ, hlt]; exact Is.mk _) ?_)
          | (refine sw_yes (by simp; exact Is.mk _) (by assumption) ?_) | (refine sw_no (by simp; exact Is.mk _) (by assumption) ?_)
        repeat' (first
          | (refine sw_seq ?_) | (refine sw_block ?_) | (refine sw_skip ?_)
          | (refine n_then ?_) | (refine r_then ?_) | (refine e_then ?_) | (refine n_block ?_) | (refine r_block ?_) | (refine e_block ?_) | (refine o_block rfl ?_)
          | (refine sw_run (by simp [-getElem?_pos, List.getElem?_cons_zero, List.getElem?_cons_succ, hlt, hx']; exact Is.mk _) ?_) | fail)
        refine sw_ss ?_
        repeat (refine ss_op rfl (by simp [-getElem?_pos, List.getElem?_cons_zero, List.getElem?_cons_succ, hx', hw', hlt]; exact Is.mk _) ?_)
        refine ss_pure rfl rfl rfl (by simp [-getElem?_pos, List.getElem?_cons_zero, List.getElem?_cons_succ]; exact Is.mk _) (by kernel_rfl) (inputcount_spec p gs os ((k : Int) + 1) hl) ?_
        by_cases c1 : (x.length : Int) = (cnt (isIn ((k : Int) + 1)) gs : Int)
        · repeat (refine ss_op rfl (by simp [-getElem?_pos, List.getElem?_cons_zero, List.getElem?_cons_succ, hx', c1]; exact Is.mk _) ?_)
          refine ss_does rfl (by simp [-getElem?_pos, List.getElem?_cons_zero, List.getElem?_cons_succ, hx', c1]; exact Is.mk _) rfl (by simp [-getElem?_pos, List.getElem?_cons_zero, List.getElem?_cons_succ, hx', c1]; exact Is.mk _) (by kernel_rfl) (wdtc_spec p gs os (n + 1) x (hl.le (by have := List.countP_le_length (p := isIn ((k : Int) + 1)) (l := gs); unfold cnt at c1; omega))) (by simp [-getElem?_pos, List.getElem?_cons_zero, List.getElem?_cons_succ, hx', c1]) (by simp [-getElem?_pos, List.getElem?_cons_zero, List.getElem?_cons_succ]) ?_
          rw [any_below]
          cases hb : belowL p x
          · refine ss_all (by simp [-getElem?_pos, List.getElem?_cons_zero, List.getElem?_cons_succ, c1]; exact Is.mk _) ?_
            repeat' (first
              | (refine sw_seq ?_) | (refine sw_block ?_) | (refine sw_skip ?_) | (refine sw_ret ?_) | (refine sw_exit ?_)
              | (refine n_then ?_) | (refine r_then ?_) | (refine e_then ?_) | (refine n_block ?_) | (refine r_block ?_) | (refine e_block ?_) | (refine o_block rfl ?_)
              | (refine sw_run (by simp [-getElem?_pos, List.getElem?_cons_zero, List.getElem?_cons_succ, ]; exact Is.mk _) ?_)
              | (refine sw_true (by simp [-getElem?_pos, List.getElem?_cons_zero, List.getElem?_cons_succ, ]; exact Is.mk _) ?_) | (refine sw_false (by simp [-getElem?_pos, List.getElem?_cons_zero, List.getElem?_cons_succ, ]; exact Is.mk _) ?_)
              | (refine sw_yes (by simp; exact Is.mk _) (by assumption) ?_)
              | (refine sw_no (by simp; exact Is.mk _) (by assumption) ?_)
              | (refine sw_if (by simp; exact Is.mk _) (fun _ => ?_) (fun _ => ?_)))
            exact end_val (by simp; exact Is.mk _) (by simp [hn0, hn]) ⟨rfl, by simp [← hR2, hb, h1]⟩
          · refine ss_all (by simp [-getElem?_pos, List.getElem?_cons_zero, List.getElem?_cons_succ, c1]; exact Is.mk _) ?_
            repeat' (first
              | (refine sw_seq ?_) | (refine sw_block ?_) | (refine sw_skip ?_) | (refine sw_ret ?_) | (refine sw_exit ?_)
              | (refine n_then ?_) | (refine r_then ?_) | (refine e_then ?_) | (refine n_block ?_) | (refine r_block ?_) | (refine e_block ?_) | (refine o_block rfl ?_)
              | (refine sw_run (by simp [-getElem?_pos, List.getElem?_cons_zero, List.getElem?_cons_succ, hw]; exact Is.mk _) ?_)
              | (refine sw_true (by simp [-getElem?_pos, List.getElem?_cons_zero, List.getElem?_cons_succ, hw]; exact Is.mk _) ?_) | (refine sw_false (by simp [-getElem?_pos, List.getElem?_cons_zero, List.getElem?_cons_succ, hw]; exact Is.mk _) ?_)
              | (refine sw_yes (by simp; exact Is.mk _) (by assumption) ?_)
              | (refine sw_no (by simp; exact Is.mk _) (by assumption) ?_)
              | (refine sw_if (by simp; exact Is.mk _) (fun _ => ?_) (fun _ => ?_)))
            exact ⟨k + 1, ⟨by omega, by simpa [hb, c1] using hR2⟩, by omega, weak_cut_hp (by simp) (by simp) (by simp)⟩
        · refine ss_all (by simp [-getElem?_pos, List.getElem?_cons_zero, List.getElem?_cons_succ, c1]; exact Is.mk _) ?_
          repeat' (first
            | (refine sw_seq ?_) | (refine sw_block ?_) | (refine sw_skip ?_) | (refine sw_ret ?_) | (refine sw_exit ?_)
            | (refine n_then ?_) | (refine r_then ?_) | (refine e_then ?_) | (refine n_block ?_) | (refine r_block ?_) | (refine e_block ?_) | (refine o_block rfl ?_)
            | (refine sw_run (by simp [-getElem?_pos, List.getElem?_cons_zero, List.getElem?_cons_succ, ]; exact Is.mk _) ?_)
            | (refine sw_true (by simp [-getElem?_pos, List.getElem?_cons_zero, List.getElem?_cons_succ, ]; exact Is.mk _) ?_) | (refine sw_false (by simp [-getElem?_pos, List.getElem?_cons_zero, List.getElem?_cons_succ, ]; exact Is.mk _) ?_)
            | (refine sw_yes (by simp; exact Is.mk _) (by assumption) ?_)
            | (refine sw_no (by simp; exact Is.mk _) (by assumption) ?_)
            | (refine sw_if (by simp; exact Is.mk _) (fun _ => ?_) (fun _ => ?_)))
          exact end_val (by simp; exact Is.mk _) (by simp [hn0, hn]) ⟨rfl, by simp [← hR2, c1, h1]⟩
      · obtain rfl : k = xs.length := by omega
        simp only [List.drop_length, insOk] at hR2
        repeat' (first
          | (refine sw_seq ?_) | (refine sw_block ?_) | (refine sw_skip ?_) | (refine sw_ret ?_) | (refine sw_exit ?_)
          | (refine n_then ?_) | (refine r_then ?_) | (refine e_then ?_) | (refine n_block ?_) | (refine r_block ?_) | (refine e_block ?_) | (refine o_block rfl ?_)
          | (refine sw_run (by simp [-getElem?_pos, List.getElem?_cons_zero, List.getElem?_cons_succ, hlt]; exact Is.mk _) ?_)
          | (refine sw_true (by simp [-getElem?_pos, List.getElem?_cons_zero, List.getElem?_cons_succ, hlt]; exact Is.mk _) ?_) | (refine sw_false (by simp [-getElem?_pos, List.getElem?_cons_zero, List.getElem?_cons_succ, hlt]; exact Is.mk _) ?_)
          | (refine sw_yes (by simp; exact Is.mk _) (by assumption) ?_)
          | (refine sw_no (by simp; exact Is.mk _) (by assumption) ?_)
          | (refine sw_if (by simp; exact Is.mk _) (fun _ => ?_) (fun _ => ?_)))
        exact end_val (by simp; exact Is.mk _) (by simp [hn0, hn]) ⟨rfl, by simp [← hR2, h1]⟩
  · repeat' (first
      | (refine sw_seq ?_) | (refine sw_block ?_) | (refine sw_skip ?_) | (refine sw_ret ?_) | (refine sw_exit ?_)
      | (refine n_then ?_) | (refine r_then ?_) | (refine e_then ?_) | (refine n_block ?_) | (refine r_block ?_) | (refine e_block ?_) | (refine o_block rfl ?_)
      | (refine sw_run (by simp [-getElem?_pos, List.getElem?_cons_zero, List.getElem?_cons_succ, h1]; exact Is.mk _) ?_)
      | (refine sw_true (by simp [-getElem?_pos, List.getElem?_cons_zero, List.getElem?_cons_succ, h1]; exact Is.mk _) ?_) | (refine sw_false (by simp [-getElem?_pos, List.getElem?_cons_zero, List.getElem?_cons_succ, h1]; exact Is.mk _) ?_)
      | (refine sw_yes (by simp; exact Is.mk _) (by assumption) ?_)
      | (refine sw_no (by simp; exact Is.mk _) (by assumption) ?_)
      | (refine sw_if (by simp; exact Is.mk _) (fun _ => ?_) (fun _ => ?_)))
    exact end_val (by simp; exact Is.mk _) (by simp [hn0, hn]) ⟨rfl, by simp [h1]⟩

end Go.AM
