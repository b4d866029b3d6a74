/- The tapes of a scenario; the program's ValidScenario. -/
import Derived.Test.YtngghimofbefjaaGreatDoorG13
namespace Go.AM
set_option linter.unusedVariables false
set_option linter.unusedSimpArgs false
open Go Go.RowKit Go.Proofs

abbrev wdF (id : Nat) : AV := .fn (.func 108) [] [.ptr id 0 0 0]
abbrev tpF (id : Nat) : AV := .fn (.func 106) [] [.ptr id 0 0 0]

theorem nowd_spec (w : Scen) (id : Nat) (x : Int) : Does Tryz.prog 108 [au x, .ptr id 0 0 0] [(id, scBk w)] [] (ab (!decide (x < w.p))) := by
  refine does_of Tryz.func108 rfl Tryz.ntmps108 (by simp) fun F n hF hn hn0 hrd => ?_
  have hid : F id = some (scBk w) := hrd _ (List.mem_cons_self ..)
  unfold scBk at hid
  repeat' (first
    | (refine sw_seq ?_) | (refine sw_block ?_) | (refine sw_skip ?_) | (refine sw_ret ?_) | (refine sw_exit ?_)
    | (refine n_then ?_) | (refine r_then ?_) | (refine e_then ?_) | (refine n_block ?_) | (refine r_block ?_) | (refine e_block ?_) | (refine o_block rfl ?_)
    | (refine sw_run (by simp [-getElem?_pos, List.getElem?_cons_zero, List.getElem?_cons_succ, hid]; exact Is.mk _) ?_)
    | (refine sw_true (by simp [-getElem?_pos, List.getElem?_cons_zero, List.getElem?_cons_succ, hid]; exact Is.mk _) ?_) | (refine sw_false (by simp [-getElem?_pos, List.getElem?_cons_zero, List.getElem?_cons_succ, hid]; exact Is.mk _) ?_)
    | (refine sw_yes (by simp; exact Is.mk _) (by assumption) ?_)
    | (refine sw_no (by simp; exact Is.mk _) (by assumption) ?_)
    | (refine sw_if (by simp; exact Is.mk _) (fun _ => ?_) (fun _ => ?_)))
  exact end_val (by simp; exact Is.mk _) (by simp [hn0, hn]) ⟨rfl, by by_cases h : x < w.p <;> simp [h]; omega⟩

set_option maxHeartbeats 1000000 in
theorem wdsi_spec (w : Scen) (id : Nat) (l : List Int) (hl : Small l.length) : Does Tryz.prog 152 [.p (.sl 1 (words l)), wdF id] [(id, scBk w)] [] (ai (idxG (fun x => !decide (x < w.p)) l 0)) := by
  refine does_of Tryz.func152 rfl Tryz.ntmps152 (by simp) fun F n hF hn hn0 hrd => ?_
  have hid : F id = some (scBk w) := hrd _ (List.mem_cons_self ..)
  repeat' (first
    | (refine sw_seq ?_) | (refine sw_block ?_) | (refine sw_skip ?_) | (refine sw_ret ?_) | (refine sw_exit ?_)
    | (refine n_then ?_) | (refine r_then ?_) | (refine e_then ?_) | (refine n_block ?_) | (refine r_block ?_) | (refine e_block ?_) | (refine o_block rfl ?_)
    | (refine sw_run (by simp [-getElem?_pos, List.getElem?_cons_zero, List.getElem?_cons_succ, ]; exact Is.mk _) ?_)
    | (refine sw_true (by simp [-getElem?_pos, List.getElem?_cons_zero, List.getElem?_cons_succ, ]; exact Is.mk _) ?_) | (refine sw_false (by simp [-getElem?_pos, List.getElem?_cons_zero, List.getElem?_cons_succ, ]; exact Is.mk _) ?_)
    | (refine sw_yes (by simp; exact Is.mk _) (by assumption) ?_)
    | (refine sw_no (by simp; exact Is.mk _) (by assumption) ?_)
    | (refine sw_if (by simp; exact Is.mk _) (fun _ => ?_) (fun _ => ?_)))
  refine sw_loopI (α := Nat) (fun k => [(0, .p (.sl 1 (words l))), (1, wdF id), (7, ai l.length), (8, ai k)]) (fun _ => []) (fun _ => n)
    (fun k => k ≤ l.length ∧ idxG (fun x => !decide (x < w.p)) (l.drop k) k = idxG (fun x => !decide (x < w.p)) l 0) (fun k => l.length - k) 0 ⟨Nat.zero_le _, rfl⟩ ?_ ?_ ?_
  · intro _
    exact weak_cut_hp (by simp [conv, convL, hid]; exact ⟨[], _, ⟨rfl, rfl⟩, by simp [convL], by simp [convL, conv, hid]⟩) (by simp) (by simp)
  · intro x
    exact hF
  · rintro k ⟨hk, hR⟩
    by_cases hlt : k < l.length
    · obtain ⟨x, hx⟩ := get_lt hlt
      have hw := wrap_succ hlt hl
      rw [drop_cons hx] at hR
      simp only [idxG] at hR
      repeat' (first
        | (refine sw_seq ?_) | (refine sw_block ?_) | (refine sw_skip ?_) | (refine sw_ret ?_) | (refine sw_exit ?_)
        | (refine n_then ?_) | (refine r_then ?_) | (refine e_then ?_) | (refine n_block ?_) | (refine r_block ?_) | (refine e_block ?_) | (refine o_block rfl ?_)
        | (refine sw_run (by simp [-getElem?_pos, List.getElem?_cons_zero, List.getElem?_cons_succ, hlt, hx]; exact Is.mk _) ?_)
        | (refine sw_true (by simp [-getElem?_pos, List.getElem?_cons_zero, List.getElem?_cons_succ, hlt, hx]; exact Is.mk _) ?_) | (refine sw_false (by simp [-getElem?_pos, List.getElem?_cons_zero, List.getElem?_cons_succ, hlt, hx]; exact Is.mk _) ?_)
        | (refine sw_yes (by simp; exact Is.mk _) (by assumption) ?_)
        | (refine sw_no (by simp; exact Is.mk _) (by assumption) ?_)
        | (refine sw_if (by simp; exact Is.mk _) (fun _ => ?_) (fun _ => ?_)))
      refine sw_ss ?_
      repeat (refine ss_op rfl (by simp [-getElem?_pos, List.getElem?_cons_zero, List.getElem?_cons_succ, hx, hid]; exact Is.mk _) ?_)
      refine ss_does rfl (by simp [-getElem?_pos, List.getElem?_cons_zero, List.getElem?_cons_succ, hx, hid]; exact Is.mk _) rfl (by simp [-getElem?_pos, List.getElem?_cons_zero, List.getElem?_cons_succ, hx, hid]; exact Is.mk _) (by kernel_rfl) (nowd_spec w id x) (by simp [-getElem?_pos, List.getElem?_cons_zero, List.getElem?_cons_succ, hx, hid]) (by simp [-getElem?_pos, List.getElem?_cons_zero, List.getElem?_cons_succ]) ?_
      cases hb : !decide (x < w.p)
      · have hb' : decide (x < w.p) = true := by simpa using hb
        simp only [hb', Bool.not_true, Bool.false_eq_true, if_false] at hR
        refine ss_all (by simp [-getElem?_pos, List.getElem?_cons_zero, List.getElem?_cons_succ, ]; exact Is.mk _) ?_
        repeat' (first
          | (refine sw_seq ?_) | (refine sw_block ?_) | (refine sw_skip ?_) | (refine sw_ret ?_) | (refine sw_exit ?_)
          | (refine n_then ?_) | (refine r_then ?_) | (refine e_then ?_) | (refine n_block ?_) | (refine r_block ?_) | (refine e_block ?_) | (refine o_block rfl ?_)
          | (refine sw_run (by simp [-getElem?_pos, List.getElem?_cons_zero, List.getElem?_cons_succ, hw]; exact Is.mk _) ?_)
          | (refine sw_true (by simp [-getElem?_pos, List.getElem?_cons_zero, List.getElem?_cons_succ, hw]; exact Is.mk _) ?_) | (refine sw_false (by simp [-getElem?_pos, List.getElem?_cons_zero, List.getElem?_cons_succ, hw]; exact Is.mk _) ?_)
          | (refine sw_yes (by simp; exact Is.mk _) (by assumption) ?_)
          | (refine sw_no (by simp; exact Is.mk _) (by assumption) ?_)
          | (refine sw_if (by simp; exact Is.mk _) (fun _ => ?_) (fun _ => ?_)))
        exact ⟨k + 1, ⟨by omega, hR⟩, by omega, weak_cut_hp (by simp [conv, convL, hid]; exact ⟨[], _, ⟨rfl, rfl⟩, by simp [convL], by simp [convL, conv, hid]⟩) (by simp) (by simp)⟩
      · have hb' : decide (x < w.p) = false := by simpa using hb
        simp only [hb', Bool.not_false, if_true] at hR
        refine ss_all (by simp [-getElem?_pos, List.getElem?_cons_zero, List.getElem?_cons_succ, ]; exact Is.mk _) ?_
        repeat' (first
          | (refine sw_seq ?_) | (refine sw_block ?_) | (refine sw_skip ?_) | (refine sw_ret ?_) | (refine sw_exit ?_)
          | (refine n_then ?_) | (refine r_then ?_) | (refine e_then ?_) | (refine n_block ?_) | (refine r_block ?_) | (refine e_block ?_) | (refine o_block rfl ?_)
          | (refine sw_run (by simp [-getElem?_pos, List.getElem?_cons_zero, List.getElem?_cons_succ, ]; exact Is.mk _) ?_)
          | (refine sw_true (by simp [-getElem?_pos, List.getElem?_cons_zero, List.getElem?_cons_succ, ]; exact Is.mk _) ?_) | (refine sw_false (by simp [-getElem?_pos, List.getElem?_cons_zero, List.getElem?_cons_succ, ]; exact Is.mk _) ?_)
          | (refine sw_yes (by simp; exact Is.mk _) (by assumption) ?_)
          | (refine sw_no (by simp; exact Is.mk _) (by assumption) ?_)
          | (refine sw_if (by simp; exact Is.mk _) (fun _ => ?_) (fun _ => ?_)))
        exact end_val (by simp; exact Is.mk _) (by simp) ⟨rfl, by rw [← hR]⟩
    · obtain rfl : k = l.length := by omega
      simp only [List.drop_length, idxG] at hR
      repeat' (first
        | (refine sw_seq ?_) | (refine sw_block ?_) | (refine sw_skip ?_) | (refine sw_ret ?_) | (refine sw_exit ?_)
        | (refine n_then ?_) | (refine r_then ?_) | (refine e_then ?_) | (refine n_block ?_) | (refine r_block ?_) | (refine e_block ?_) | (refine o_block rfl ?_)
        | (refine sw_run (by simp [-getElem?_pos, List.getElem?_cons_zero, List.getElem?_cons_succ, hlt]; exact Is.mk _) ?_)
        | (refine sw_true (by simp [-getElem?_pos, List.getElem?_cons_zero, List.getElem?_cons_succ, hlt]; exact Is.mk _) ?_) | (refine sw_false (by simp [-getElem?_pos, List.getElem?_cons_zero, List.getElem?_cons_succ, hlt]; exact Is.mk _) ?_)
        | (refine sw_yes (by simp; exact Is.mk _) (by assumption) ?_)
        | (refine sw_no (by simp; exact Is.mk _) (by assumption) ?_)
        | (refine sw_if (by simp; exact Is.mk _) (fun _ => ?_) (fun _ => ?_)))
      exact end_val (by simp; exact Is.mk _) (by simp) ⟨rfl, by rw [← hR]⟩

set_option maxHeartbeats 1000000 in
theorem wdsc_spec (w : Scen) (id : Nat) (l : List Int) (hl : Small l.length) : Does Tryz.prog 107 [.p (.sl 1 (words l)), wdF id] [(id, scBk w)] [] (ab (l.any (fun x => !decide (x < w.p)))) := by
  refine does_of Tryz.func107 rfl Tryz.ntmps107 (by simp) fun F n hF hn hn0 hrd => ?_
  have hid : F id = some (scBk w) := hrd _ (List.mem_cons_self ..)
  repeat' (first
    | (refine sw_seq ?_) | (refine sw_block ?_) | (refine sw_skip ?_) | (refine sw_ret ?_) | (refine sw_exit ?_)
    | (refine n_then ?_) | (refine r_then ?_) | (refine e_then ?_) | (refine n_block ?_) | (refine r_block ?_) | (refine e_block ?_) | (refine o_block rfl ?_)
    | (refine sw_run (by simp [-getElem?_pos, List.getElem?_cons_zero, List.getElem?_cons_succ, ]; exact Is.mk _) ?_)
    | (refine sw_true (by simp [-getElem?_pos, List.getElem?_cons_zero, List.getElem?_cons_succ, ]; exact Is.mk _) ?_) | (refine sw_false (by simp [-getElem?_pos, List.getElem?_cons_zero, List.getElem?_cons_succ, ]; exact Is.mk _) ?_)
    | (refine sw_yes (by simp; exact Is.mk _) (by assumption) ?_)
    | (refine sw_no (by simp; exact Is.mk _) (by assumption) ?_)
    | (refine sw_if (by simp; exact Is.mk _) (fun _ => ?_) (fun _ => ?_)))
  refine sw_ss ?_
  repeat (refine ss_op rfl (by simp [-getElem?_pos, List.getElem?_cons_zero, List.getElem?_cons_succ, hid]; exact Is.mk _) ?_)
  refine ss_does rfl (by simp [-getElem?_pos, List.getElem?_cons_zero, List.getElem?_cons_succ, hid]; exact Is.mk _) rfl (by simp [-getElem?_pos, List.getElem?_cons_zero, List.getElem?_cons_succ, hid]; exact Is.mk _) (by kernel_rfl) (wdsi_spec w id l hl) (by simp [-getElem?_pos, List.getElem?_cons_zero, List.getElem?_cons_succ, hid]) (by simp [-getElem?_pos, List.getElem?_cons_zero, List.getElem?_cons_succ]) ?_
  refine ss_all (by simp [-getElem?_pos, List.getElem?_cons_zero, List.getElem?_cons_succ, ]; exact Is.mk _) ?_
  repeat' (first
    | (refine sw_seq ?_) | (refine sw_block ?_) | (refine sw_skip ?_) | (refine sw_ret ?_) | (refine sw_exit ?_)
    | (refine n_then ?_) | (refine r_then ?_) | (refine e_then ?_) | (refine n_block ?_) | (refine r_block ?_) | (refine e_block ?_) | (refine o_block rfl ?_)
    | (refine sw_run (by simp [-getElem?_pos, List.getElem?_cons_zero, List.getElem?_cons_succ, ]; exact Is.mk _) ?_)
    | (refine sw_true (by simp [-getElem?_pos, List.getElem?_cons_zero, List.getElem?_cons_succ, ]; exact Is.mk _) ?_) | (refine sw_false (by simp [-getElem?_pos, List.getElem?_cons_zero, List.getElem?_cons_succ, ]; exact Is.mk _) ?_)
    | (refine sw_yes (by simp; exact Is.mk _) (by assumption) ?_)
    | (refine sw_no (by simp; exact Is.mk _) (by assumption) ?_)
    | (refine sw_if (by simp; exact Is.mk _) (fun _ => ?_) (fun _ => ?_)))
  exact end_val (by simp; exact Is.mk _) (by simp) ⟨rfl, by rw [← idxG_any (k := 0)]⟩


theorem any_below {p : Int} : ∀ {l : List Int}, (l.any fun x => !decide (x < p)) = !belowL p l
  | [] => rfl
  | x :: l => by
    rw [List.any_cons, belowL, any_below (l := l)]
    cases decide (x < p) <;> simp

set_option maxHeartbeats 1000000 in
theorem notp_spec (w : Scen) (id : Nat) (l : List Int) (hl : Small l.length) : Does Tryz.prog 106 [.p (.sl 1 (words l)), .ptr id 0 0 0] [(id, scBk w)] [] (ab (!belowL w.p l)) := by
  refine does_of Tryz.func106 rfl Tryz.ntmps106 (by simp) fun F n hF hn hn0 hrd => ?_
  have hid : F id = some (scBk w) := hrd _ (List.mem_cons_self ..)
  repeat' (first
    | (refine sw_seq ?_) | (refine sw_block ?_) | (refine sw_skip ?_) | (refine sw_ret ?_) | (refine sw_exit ?_)
    | (refine n_then ?_) | (refine r_then ?_) | (refine e_then ?_) | (refine n_block ?_) | (refine r_block ?_) | (refine e_block ?_) | (refine o_block rfl ?_)
    | (refine sw_run (by simp [-getElem?_pos, List.getElem?_cons_zero, List.getElem?_cons_succ, ]; exact Is.mk _) ?_)
    | (refine sw_true (by simp [-getElem?_pos, List.getElem?_cons_zero, List.getElem?_cons_succ, ]; exact Is.mk _) ?_) | (refine sw_false (by simp [-getElem?_pos, List.getElem?_cons_zero, List.getElem?_cons_succ, ]; exact Is.mk _) ?_)
    | (refine sw_yes (by simp; exact Is.mk _) (by assumption) ?_)
    | (refine sw_no (by simp; exact Is.mk _) (by assumption) ?_)
    | (refine sw_if (by simp; exact Is.mk _) (fun _ => ?_) (fun _ => ?_)))
  refine sw_ss ?_
  repeat (refine ss_op rfl (by simp [-getElem?_pos, List.getElem?_cons_zero, List.getElem?_cons_succ, hid]; exact Is.mk _) ?_)
  refine ss_does rfl (by simp [-getElem?_pos, List.getElem?_cons_zero, List.getElem?_cons_succ, hid]; exact Is.mk _) rfl (by simp [-getElem?_pos, List.getElem?_cons_zero, List.getElem?_cons_succ, hid]; exact Is.mk _) (by kernel_rfl) (wdsc_spec w id l hl) (by simp [-getElem?_pos, List.getElem?_cons_zero, List.getElem?_cons_succ, hid]) (by simp [-getElem?_pos, List.getElem?_cons_zero, List.getElem?_cons_succ]) ?_
  refine ss_all (by simp [-getElem?_pos, List.getElem?_cons_zero, List.getElem?_cons_succ, ]; exact Is.mk _) ?_
  repeat' (first
    | (refine sw_seq ?_) | (refine sw_block ?_) | (refine sw_skip ?_) | (refine sw_ret ?_) | (refine sw_exit ?_)
    | (refine n_then ?_) | (refine r_then ?_) | (refine e_then ?_) | (refine n_block ?_) | (refine r_block ?_) | (refine e_block ?_) | (refine o_block rfl ?_)
    | (refine sw_run (by simp [-getElem?_pos, List.getElem?_cons_zero, List.getElem?_cons_succ, ]; exact Is.mk _) ?_)
    | (refine sw_true (by simp [-getElem?_pos, List.getElem?_cons_zero, List.getElem?_cons_succ, ]; exact Is.mk _) ?_) | (refine sw_false (by simp [-getElem?_pos, List.getElem?_cons_zero, List.getElem?_cons_succ, ]; exact Is.mk _) ?_)
    | (refine sw_yes (by simp; exact Is.mk _) (by assumption) ?_)
    | (refine sw_no (by simp; exact Is.mk _) (by assumption) ?_)
    | (refine sw_if (by simp; exact Is.mk _) (fun _ => ?_) (fun _ => ?_)))
  exact end_val (by simp; exact Is.mk _) (by simp) ⟨rfl, by rw [any_below]⟩

set_option maxHeartbeats 1000000 in
theorem tpsi_spec (w : Scen) (id : Nat) (l : List (List Int)) (hl : Small l.length) (hts : ∀ x ∈ l, Small x.length) : Does Tryz.prog 151 [.p (.sl 1 (wrows l)), tpF id] [(id, scBk w)] [] (ai (idxG (fun x => !belowL w.p x) l 0)) := by
  refine does_of Tryz.func151 rfl Tryz.ntmps151 (by simp) fun F n hF hn hn0 hrd => ?_
  have hid : F id = some (scBk w) := hrd _ (List.mem_cons_self ..)
  repeat' (first
    | (refine sw_seq ?_) | (refine sw_block ?_) | (refine sw_skip ?_) | (refine sw_ret ?_) | (refine sw_exit ?_)
    | (refine n_then ?_) | (refine r_then ?_) | (refine e_then ?_) | (refine n_block ?_) | (refine r_block ?_) | (refine e_block ?_) | (refine o_block rfl ?_)
    | (refine sw_run (by simp [-getElem?_pos, List.getElem?_cons_zero, List.getElem?_cons_succ, ]; exact Is.mk _) ?_)
    | (refine sw_true (by simp [-getElem?_pos, List.getElem?_cons_zero, List.getElem?_cons_succ, ]; exact Is.mk _) ?_) | (refine sw_false (by simp [-getElem?_pos, List.getElem?_cons_zero, List.getElem?_cons_succ, ]; exact Is.mk _) ?_)
    | (refine sw_yes (by simp; exact Is.mk _) (by assumption) ?_)
    | (refine sw_no (by simp; exact Is.mk _) (by assumption) ?_)
    | (refine sw_if (by simp; exact Is.mk _) (fun _ => ?_) (fun _ => ?_)))
  refine sw_loopI (α := Nat) (fun k => [(0, .p (.sl 1 (wrows l))), (1, tpF id), (7, ai l.length), (8, ai k)]) (fun _ => []) (fun _ => n)
    (fun k => k ≤ l.length ∧ idxG (fun x => !belowL w.p x) (l.drop k) k = idxG (fun x => !belowL w.p x) l 0) (fun k => l.length - k) 0 ⟨Nat.zero_le _, rfl⟩ ?_ ?_ ?_
  · intro _
    exact weak_cut_hp (by simp [conv, convL, hid]; exact ⟨[], _, ⟨rfl, rfl⟩, by simp [convL], by simp [convL, conv, hid]⟩) (by simp) (by simp)
  · intro x
    exact hF
  · rintro k ⟨hk, hR⟩
    by_cases hlt : k < l.length
    · obtain ⟨x, hx⟩ := get_lt hlt
      have hw := wrap_succ hlt hl
      rw [drop_cons hx] at hR
      simp only [idxG] at hR
      repeat' (first
        | (refine sw_seq ?_) | (refine sw_block ?_) | (refine sw_skip ?_) | (refine sw_ret ?_) | (refine sw_exit ?_)
        | (refine n_then ?_) | (refine r_then ?_) | (refine e_then ?_) | (refine n_block ?_) | (refine r_block ?_) | (refine e_block ?_) | (refine o_block rfl ?_)
        | (refine sw_run (by simp [-getElem?_pos, List.getElem?_cons_zero, List.getElem?_cons_succ, hlt, hx]; exact Is.mk _) ?_)
        | (refine sw_true (by simp [-getElem?_pos, List.getElem?_cons_zero, List.getElem?_cons_succ, hlt, hx]; exact Is.mk _) ?_) | (refine sw_false (by simp [-getElem?_pos, List.getElem?_cons_zero, List.getElem?_cons_succ, hlt, hx]; exact Is.mk _) ?_)
        | (refine sw_yes (by simp; exact Is.mk _) (by assumption) ?_)
        | (refine sw_no (by simp; exact Is.mk _) (by assumption) ?_)
        | (refine sw_if (by simp; exact Is.mk _) (fun _ => ?_) (fun _ => ?_)))
      refine sw_ss ?_
      repeat (refine ss_op rfl (by simp [-getElem?_pos, List.getElem?_cons_zero, List.getElem?_cons_succ, hx, hid]; exact Is.mk _) ?_)
      refine ss_does rfl (by simp [-getElem?_pos, List.getElem?_cons_zero, List.getElem?_cons_succ, hx, hid]; exact Is.mk _) rfl (by simp [-getElem?_pos, List.getElem?_cons_zero, List.getElem?_cons_succ, hx, hid]; exact Is.mk _) (by kernel_rfl) (notp_spec w id x (hts x (List.mem_of_getElem? hx))) (by simp [-getElem?_pos, List.getElem?_cons_zero, List.getElem?_cons_succ, hx, hid]) (by simp [-getElem?_pos, List.getElem?_cons_zero, List.getElem?_cons_succ]) ?_
      cases hb : !belowL w.p x
      · have hb' : belowL w.p x = true := by simpa using hb
        simp only [hb', Bool.not_true, Bool.false_eq_true, if_false] at hR
        refine ss_all (by simp [-getElem?_pos, List.getElem?_cons_zero, List.getElem?_cons_succ, ]; exact Is.mk _) ?_
        repeat' (first
          | (refine sw_seq ?_) | (refine sw_block ?_) | (refine sw_skip ?_) | (refine sw_ret ?_) | (refine sw_exit ?_)
          | (refine n_then ?_) | (refine r_then ?_) | (refine e_then ?_) | (refine n_block ?_) | (refine r_block ?_) | (refine e_block ?_) | (refine o_block rfl ?_)
          | (refine sw_run (by simp [-getElem?_pos, List.getElem?_cons_zero, List.getElem?_cons_succ, hw]; exact Is.mk _) ?_)
          | (refine sw_true (by simp [-getElem?_pos, List.getElem?_cons_zero, List.getElem?_cons_succ, hw]; exact Is.mk _) ?_) | (refine sw_false (by simp [-getElem?_pos, List.getElem?_cons_zero, List.getElem?_cons_succ, hw]; exact Is.mk _) ?_)
          | (refine sw_yes (by simp; exact Is.mk _) (by assumption) ?_)
          | (refine sw_no (by simp; exact Is.mk _) (by assumption) ?_)
          | (refine sw_if (by simp; exact Is.mk _) (fun _ => ?_) (fun _ => ?_)))
        exact ⟨k + 1, ⟨by omega, hR⟩, by omega, weak_cut_hp (by simp [conv, convL, hid]; exact ⟨[], _, ⟨rfl, rfl⟩, by simp [convL], by simp [convL, conv, hid]⟩) (by simp) (by simp)⟩
      · have hb' : belowL w.p x = false := by simpa using hb
        simp only [hb', Bool.not_false, if_true] at hR
        refine ss_all (by simp [-getElem?_pos, List.getElem?_cons_zero, List.getElem?_cons_succ, ]; exact Is.mk _) ?_
        repeat' (first
          | (refine sw_seq ?_) | (refine sw_block ?_) | (refine sw_skip ?_) | (refine sw_ret ?_) | (refine sw_exit ?_)
          | (refine n_then ?_) | (refine r_then ?_) | (refine e_then ?_) | (refine n_block ?_) | (refine r_block ?_) | (refine e_block ?_) | (refine o_block rfl ?_)
          | (refine sw_run (by simp [-getElem?_pos, List.getElem?_cons_zero, List.getElem?_cons_succ, ]; exact Is.mk _) ?_)
          | (refine sw_true (by simp [-getElem?_pos, List.getElem?_cons_zero, List.getElem?_cons_succ, ]; exact Is.mk _) ?_) | (refine sw_false (by simp [-getElem?_pos, List.getElem?_cons_zero, List.getElem?_cons_succ, ]; exact Is.mk _) ?_)
          | (refine sw_yes (by simp; exact Is.mk _) (by assumption) ?_)
          | (refine sw_no (by simp; exact Is.mk _) (by assumption) ?_)
          | (refine sw_if (by simp; exact Is.mk _) (fun _ => ?_) (fun _ => ?_)))
        exact end_val (by simp; exact Is.mk _) (by simp) ⟨rfl, by rw [← hR]⟩
    · obtain rfl : k = l.length := by omega
      simp only [List.drop_length, idxG] at hR
      repeat' (first
        | (refine sw_seq ?_) | (refine sw_block ?_) | (refine sw_skip ?_) | (refine sw_ret ?_) | (refine sw_exit ?_)
        | (refine n_then ?_) | (refine r_then ?_) | (refine e_then ?_) | (refine n_block ?_) | (refine r_block ?_) | (refine e_block ?_) | (refine o_block rfl ?_)
        | (refine sw_run (by simp [-getElem?_pos, List.getElem?_cons_zero, List.getElem?_cons_succ, hlt]; exact Is.mk _) ?_)
        | (refine sw_true (by simp [-getElem?_pos, List.getElem?_cons_zero, List.getElem?_cons_succ, hlt]; exact Is.mk _) ?_) | (refine sw_false (by simp [-getElem?_pos, List.getElem?_cons_zero, List.getElem?_cons_succ, hlt]; exact Is.mk _) ?_)
        | (refine sw_yes (by simp; exact Is.mk _) (by assumption) ?_)
        | (refine sw_no (by simp; exact Is.mk _) (by assumption) ?_)
        | (refine sw_if (by simp; exact Is.mk _) (fun _ => ?_) (fun _ => ?_)))
      exact end_val (by simp; exact Is.mk _) (by simp) ⟨rfl, by rw [← hR]⟩

set_option maxHeartbeats 1000000 in
theorem tpsc_spec (w : Scen) (id : Nat) (l : List (List Int)) (hl : Small l.length) (hts : ∀ x ∈ l, Small x.length) : Does Tryz.prog 105 [.p (.sl 1 (wrows l)), tpF id] [(id, scBk w)] [] (ab (l.any (fun x => !belowL w.p x))) := by
  refine does_of Tryz.func105 rfl Tryz.ntmps105 (by simp) fun F n hF hn hn0 hrd => ?_
  have hid : F id = some (scBk w) := hrd _ (List.mem_cons_self ..)
  repeat' (first
    | (refine sw_seq ?_) | (refine sw_block ?_) | (refine sw_skip ?_) | (refine sw_ret ?_) | (refine sw_exit ?_)
    | (refine n_then ?_) | (refine r_then ?_) | (refine e_then ?_) | (refine n_block ?_) | (refine r_block ?_) | (refine e_block ?_) | (refine o_block rfl ?_)
    | (refine sw_run (by simp [-getElem?_pos, List.getElem?_cons_zero, List.getElem?_cons_succ, ]; exact Is.mk _) ?_)
    | (refine sw_true (by simp [-getElem?_pos, List.getElem?_cons_zero, List.getElem?_cons_succ, ]; exact Is.mk _) ?_) | (refine sw_false (by simp [-getElem?_pos, List.getElem?_cons_zero, List.getElem?_cons_succ, ]; exact Is.mk _) ?_)
    | (refine sw_yes (by simp; exact Is.mk _) (by assumption) ?_)
    | (refine sw_no (by simp; exact Is.mk _) (by assumption) ?_)
    | (refine sw_if (by simp; exact Is.mk _) (fun _ => ?_) (fun _ => ?_)))
  refine sw_ss ?_
  repeat (refine ss_op rfl (by simp [-getElem?_pos, List.getElem?_cons_zero, List.getElem?_cons_succ, hid]; exact Is.mk _) ?_)
  refine ss_does rfl (by simp [-getElem?_pos, List.getElem?_cons_zero, List.getElem?_cons_succ, hid]; exact Is.mk _) rfl (by simp [-getElem?_pos, List.getElem?_cons_zero, List.getElem?_cons_succ, hid]; exact Is.mk _) (by kernel_rfl) (tpsi_spec w id l hl hts) (by simp [-getElem?_pos, List.getElem?_cons_zero, List.getElem?_cons_succ, hid]) (by simp [-getElem?_pos, List.getElem?_cons_zero, List.getElem?_cons_succ]) ?_
  refine ss_all (by simp [-getElem?_pos, List.getElem?_cons_zero, List.getElem?_cons_succ, ]; exact Is.mk _) ?_
  repeat' (first
    | (refine sw_seq ?_) | (refine sw_block ?_) | (refine sw_skip ?_) | (refine sw_ret ?_) | (refine sw_exit ?_)
    | (refine n_then ?_) | (refine r_then ?_) | (refine e_then ?_) | (refine n_block ?_) | (refine r_block ?_) | (refine e_block ?_) | (refine o_block rfl ?_)
    | (refine sw_run (by simp [-getElem?_pos, List.getElem?_cons_zero, List.getElem?_cons_succ, ]; exact Is.mk _) ?_)
    | (refine sw_true (by simp [-getElem?_pos, List.getElem?_cons_zero, List.getElem?_cons_succ, ]; exact Is.mk _) ?_) | (refine sw_false (by simp [-getElem?_pos, List.getElem?_cons_zero, List.getElem?_cons_succ, ]; exact Is.mk _) ?_)
    | (refine sw_yes (by simp; exact Is.mk _) (by assumption) ?_)
    | (refine sw_no (by simp; exact Is.mk _) (by assumption) ?_)
    | (refine sw_if (by simp; exact Is.mk _) (fun _ => ?_) (fun _ => ?_)))
  exact end_val (by simp; exact Is.mk _) (by simp) ⟨rfl, by rw [← idxG_any (k := 0)]⟩


end Go.AM
