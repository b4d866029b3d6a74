/- How many inputs a party has. -/
import Derived.Test.YtngghimofbefjaaGreatDoorS4
import Derived.Test.YtngghimofbefjaaGreatDoorM3
namespace Go.AM
set_option linter.unusedVariables false
set_option linter.unusedSimpArgs false
open Go Go.RowKit Go.Proofs

def isIn (q : Int) (g : Gate) : Bool := decide (g.kind = 1) && decide (g.frm = q)

abbrev cellB (q : Int) : Blk := .row 0 3 1 [[ai q]]
abbrev inF (id : Nat) : AV := .fn (.func 43) [] [.ptr id 0 0 0]

theorem isin_spec (q : Int) (id : Nat) (g : Gate) : Does Tryz.prog 43 [gateA g, .ptr id 0 0 0] [(id, cellB q)] [] (ab (isIn q g)) := by
  refine does_of Tryz.func43 rfl Tryz.ntmps43 (by simp) fun F n hF hn hn0 hrd => ?_
  have hid : F id = some (cellB q) := hrd _ (List.mem_cons_self ..)
  have hne : id ≠ n := fun e => by rw [e, hn0] at hid; cases hid
  unfold gateA isIn
  by_cases c1 : g.kind = 1
  · by_cases c2 : g.frm = q
    · repeat' (first
        | (refine sw_seq ?_) | (refine sw_block ?_) | (refine sw_skip ?_) | (refine sw_ret ?_) | (refine sw_exit ?_)
        | (refine n_then ?_) | (refine r_then ?_) | (refine e_then ?_) | (refine n_block ?_) | (refine r_block ?_) | (refine e_block ?_) | (refine o_block rfl ?_)
        | (refine sw_run (by simp [-getElem?_pos, List.getElem?_cons_zero, List.getElem?_cons_succ, c1, c2, hid, hne]; exact Is.mk _) ?_)
        | (refine sw_true (by simp [-getElem?_pos, List.getElem?_cons_zero, List.getElem?_cons_succ, c1, c2, hid, hne]; exact Is.mk _) ?_) | (refine sw_false (by simp [-getElem?_pos, List.getElem?_cons_zero, List.getElem?_cons_succ, c1, c2, hid, hne]; exact Is.mk _) ?_)
        | (refine sw_yes (by simp; exact Is.mk _) (by assumption) ?_)
        | (refine sw_no (by simp; exact Is.mk _) (by assumption) ?_)
        | (refine sw_if (by simp; exact Is.mk _) (fun _ => ?_) (fun _ => ?_)))
      exact end_val (by simp; exact Is.mk _) (by simp [hn0, hn]) ⟨rfl, by simp [c1, c2]⟩
    · repeat' (first
        | (refine sw_seq ?_) | (refine sw_block ?_) | (refine sw_skip ?_) | (refine sw_ret ?_) | (refine sw_exit ?_)
        | (refine n_then ?_) | (refine r_then ?_) | (refine e_then ?_) | (refine n_block ?_) | (refine r_block ?_) | (refine e_block ?_) | (refine o_block rfl ?_)
        | (refine sw_run (by simp [-getElem?_pos, List.getElem?_cons_zero, List.getElem?_cons_succ, c1, c2, hid, hne]; exact Is.mk _) ?_)
        | (refine sw_true (by simp [-getElem?_pos, List.getElem?_cons_zero, List.getElem?_cons_succ, c1, c2, hid, hne]; exact Is.mk _) ?_) | (refine sw_false (by simp [-getElem?_pos, List.getElem?_cons_zero, List.getElem?_cons_succ, c1, c2, hid, hne]; exact Is.mk _) ?_)
        | (refine sw_yes (by simp; exact Is.mk _) (by assumption) ?_)
        | (refine sw_no (by simp; exact Is.mk _) (by assumption) ?_)
        | (refine sw_if (by simp; exact Is.mk _) (fun _ => ?_) (fun _ => ?_)))
      exact end_val (by simp; exact Is.mk _) (by simp [hn0, hn]) ⟨rfl, by simp [c1, c2]⟩
  · repeat' (first
      | (refine sw_seq ?_) | (refine sw_block ?_) | (refine sw_skip ?_) | (refine sw_ret ?_) | (refine sw_exit ?_)
      | (refine n_then ?_) | (refine r_then ?_) | (refine e_then ?_) | (refine n_block ?_) | (refine r_block ?_) | (refine e_block ?_) | (refine o_block rfl ?_)
      | (refine sw_run (by simp [-getElem?_pos, List.getElem?_cons_zero, List.getElem?_cons_succ, c1, hid, hne]; exact Is.mk _) ?_)
      | (refine sw_true (by simp [-getElem?_pos, List.getElem?_cons_zero, List.getElem?_cons_succ, c1, hid, hne]; exact Is.mk _) ?_) | (refine sw_false (by simp [-getElem?_pos, List.getElem?_cons_zero, List.getElem?_cons_succ, c1, hid, hne]; exact Is.mk _) ?_)
      | (refine sw_yes (by simp; exact Is.mk _) (by assumption) ?_)
      | (refine sw_no (by simp; exact Is.mk _) (by assumption) ?_)
      | (refine sw_if (by simp; exact Is.mk _) (fun _ => ?_) (fun _ => ?_)))
    exact end_val (by simp; exact Is.mk _) (by simp [hn0, hn]) ⟨rfl, by simp [c1]⟩

set_option maxHeartbeats 1000000 in
theorem countin_spec (q : Int) (id : Nat) (p : Int) (gs : List Gate) (os : List Int) (hl : Small gs.length) : Does Tryz.prog 42 [circA p gs os, inF id] [(id, cellB q)] [] (ai (cnt (isIn q) gs)) := by
  refine does_of Tryz.func42 rfl Tryz.ntmps42 (by simp) fun F n hF hn hn0 hrd => ?_
  have hid : F id = some (cellB q) := hrd _ (List.mem_cons_self ..)
  have hne : id ≠ n := fun e => by rw [e, hn0] at hid; cases hid
  have hne1 : id ≠ n + 1 := fun e => by rw [e, hn 1] at hid; cases hid
  unfold circA
  repeat' (first
    | (refine sw_seq ?_) | (refine sw_block ?_) | (refine sw_skip ?_) | (refine sw_ret ?_) | (refine sw_exit ?_)
    | (refine n_then ?_) | (refine r_then ?_) | (refine e_then ?_) | (refine n_block ?_) | (refine r_block ?_) | (refine e_block ?_) | (refine o_block rfl ?_)
    | (refine sw_run (by simp [-getElem?_pos, List.getElem?_cons_zero, List.getElem?_cons_succ, ]; exact Is.mk _) ?_)
    | (refine sw_true (by simp [-getElem?_pos, List.getElem?_cons_zero, List.getElem?_cons_succ, ]; exact Is.mk _) ?_) | (refine sw_false (by simp [-getElem?_pos, List.getElem?_cons_zero, List.getElem?_cons_succ, ]; exact Is.mk _) ?_)
    | (refine sw_yes (by simp; exact Is.mk _) (by assumption) ?_)
    | (refine sw_no (by simp; exact Is.mk _) (by assumption) ?_)
    | (refine sw_if (by simp; exact Is.mk _) (fun _ => ?_) (fun _ => ?_)))
  refine sw_loopI (α := Nat) (fun k => [(1, inF id), (2, .ptr n 0 0 0), (5, ai (cnt (isIn q) (gs.take k))), (9, gatesV gs), (10, ai gs.length), (11, ai k)])
    (fun k => [(n, circB p gs os)]) (fun _ => n + 1)
    (fun k => k ≤ gs.length) (fun k => gs.length - k) 0 (by simp) ?_ ?_ ?_
  · intro _
    exact weak_cut_hp (by simp [cnt, conv, convL, hid, hne]; exact ⟨[], _, ⟨rfl, rfl⟩, by simp [convL], by simp [convL, conv, hid, hne]⟩) (by simp) (by simp)
  · intro x
    exact fresh_of hF (by omega) (by simp)
  · rintro k hk
    by_cases hlt : k < gs.length
    · obtain ⟨g, hg⟩ := get_lt hlt
      have hw := wrap_succ hlt hl
      have hc := cnt_wrap (p := isIn q) hlt hl
      have ht := cnt_snoc (p := isIn q) hg
      repeat' (first
        | (refine sw_seq ?_) | (refine sw_block ?_) | (refine sw_skip ?_) | (refine sw_ret ?_) | (refine sw_exit ?_)
        | (refine n_then ?_) | (refine r_then ?_) | (refine e_then ?_) | (refine n_block ?_) | (refine r_block ?_) | (refine e_block ?_) | (refine o_block rfl ?_)
        | (refine sw_run (by simp [-getElem?_pos, List.getElem?_cons_zero, List.getElem?_cons_succ, hg, gateC]; exact Is.mk _) ?_)
        | (refine sw_true (by simp [-getElem?_pos, List.getElem?_cons_zero, List.getElem?_cons_succ, hg, gateC]; exact Is.mk _) ?_) | (refine sw_false (by simp [-getElem?_pos, List.getElem?_cons_zero, List.getElem?_cons_succ, hg, gateC]; exact Is.mk _) ?_)
        | (refine sw_yes (by simp; exact Is.mk _) (by assumption) ?_)
        | (refine sw_no (by simp; exact Is.mk _) (by assumption) ?_)
        | (refine sw_if (by simp; exact Is.mk _) (fun _ => ?_) (fun _ => ?_)))
      refine sw_ss ?_
      repeat (refine ss_op rfl (by simp [-getElem?_pos, List.getElem?_cons_zero, List.getElem?_cons_succ, hg, hid, hne, hne1]; exact Is.mk _) ?_)
      refine ss_does rfl (by simp [-getElem?_pos, List.getElem?_cons_zero, List.getElem?_cons_succ, hg, hid, hne, hne1]; exact Is.mk _) rfl (by simp [-getElem?_pos, List.getElem?_cons_zero, List.getElem?_cons_succ, hg, hid, hne, hne1]; exact Is.mk _) (by kernel_rfl) (isin_spec q id g) (by simp [-getElem?_pos, List.getElem?_cons_zero, List.getElem?_cons_succ, hg, hid, hne, hne1]) (by simp [-getElem?_pos, List.getElem?_cons_zero, List.getElem?_cons_succ]) ?_
      cases hb : isIn q g
      · refine ss_all (by simp [-getElem?_pos, List.getElem?_cons_zero, List.getElem?_cons_succ, ]; exact Is.mk _) ?_
        repeat' (first
          | (refine sw_seq ?_) | (refine sw_block ?_) | (refine sw_skip ?_) | (refine sw_ret ?_) | (refine sw_exit ?_)
          | (refine n_then ?_) | (refine r_then ?_) | (refine e_then ?_) | (refine n_block ?_) | (refine r_block ?_) | (refine e_block ?_) | (refine o_block rfl ?_)
          | (refine sw_run (by simp [-getElem?_pos, List.getElem?_cons_zero, List.getElem?_cons_succ, hw, hc, hb]; exact Is.mk _) ?_)
          | (refine sw_true (by simp [-getElem?_pos, List.getElem?_cons_zero, List.getElem?_cons_succ, hw, hc, hb]; exact Is.mk _) ?_) | (refine sw_false (by simp [-getElem?_pos, List.getElem?_cons_zero, List.getElem?_cons_succ, hw, hc, hb]; exact Is.mk _) ?_)
          | (refine sw_yes (by simp; exact Is.mk _) (by assumption) ?_)
          | (refine sw_no (by simp; exact Is.mk _) (by assumption) ?_)
          | (refine sw_if (by simp; exact Is.mk _) (fun _ => ?_) (fun _ => ?_)))
        exact ⟨k + 1, by omega, by omega, weak_cut_hp (by simp [ht, hb, conv, convL, hid, hne]; exact ⟨[], _, ⟨rfl, rfl⟩, by simp [convL], by simp [convL, conv, hid, hne]⟩) (by simp) (by simp [hn])⟩
      · refine ss_all (by simp [-getElem?_pos, List.getElem?_cons_zero, List.getElem?_cons_succ, ]; exact Is.mk _) ?_
        repeat' (first
          | (refine sw_seq ?_) | (refine sw_block ?_) | (refine sw_skip ?_) | (refine sw_ret ?_) | (refine sw_exit ?_)
          | (refine n_then ?_) | (refine r_then ?_) | (refine e_then ?_) | (refine n_block ?_) | (refine r_block ?_) | (refine e_block ?_) | (refine o_block rfl ?_)
          | (refine sw_run (by simp [-getElem?_pos, List.getElem?_cons_zero, List.getElem?_cons_succ, hw, hc, hb]; exact Is.mk _) ?_)
          | (refine sw_true (by simp [-getElem?_pos, List.getElem?_cons_zero, List.getElem?_cons_succ, hw, hc, hb]; exact Is.mk _) ?_) | (refine sw_false (by simp [-getElem?_pos, List.getElem?_cons_zero, List.getElem?_cons_succ, hw, hc, hb]; exact Is.mk _) ?_)
          | (refine sw_yes (by simp; exact Is.mk _) (by assumption) ?_)
          | (refine sw_no (by simp; exact Is.mk _) (by assumption) ?_)
          | (refine sw_if (by simp; exact Is.mk _) (fun _ => ?_) (fun _ => ?_)))
        exact ⟨k + 1, by omega, by omega, weak_cut_hp (by simp [ht, hb, conv, convL, hid, hne]; exact ⟨[], _, ⟨rfl, rfl⟩, by simp [convL], by simp [convL, conv, hid, hne]⟩) (by simp) (by simp [hn])⟩
    · obtain rfl : k = gs.length := by omega
      repeat' (first
        | (refine sw_seq ?_) | (refine sw_block ?_) | (refine sw_skip ?_) | (refine sw_ret ?_) | (refine sw_exit ?_)
        | (refine n_then ?_) | (refine r_then ?_) | (refine e_then ?_) | (refine n_block ?_) | (refine r_block ?_) | (refine e_block ?_) | (refine o_block rfl ?_)
        | (refine sw_run (by simp [-getElem?_pos, List.getElem?_cons_zero, List.getElem?_cons_succ, ]; exact Is.mk _) ?_)
        | (refine sw_true (by simp [-getElem?_pos, List.getElem?_cons_zero, List.getElem?_cons_succ, ]; exact Is.mk _) ?_) | (refine sw_false (by simp [-getElem?_pos, List.getElem?_cons_zero, List.getElem?_cons_succ, ]; exact Is.mk _) ?_)
        | (refine sw_yes (by simp; exact Is.mk _) (by assumption) ?_)
        | (refine sw_no (by simp; exact Is.mk _) (by assumption) ?_)
        | (refine sw_if (by simp; exact Is.mk _) (fun _ => ?_) (fun _ => ?_)))
      exact end_val (by simp; exact Is.mk _) (by simp [hn0]) ⟨rfl, by simp [cnt]⟩

end Go.AM
