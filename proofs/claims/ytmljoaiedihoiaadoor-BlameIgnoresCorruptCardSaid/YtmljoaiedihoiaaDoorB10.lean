/- slices.Index, Contains, IndexFunc, ContainsFunc of ints; blame.OnlyCorrupt. -/
import Derived.Test.YtmljoaiedihoiaaDoorB9
namespace Go.AM
set_option linter.unusedVariables false
set_option linter.unusedSimpArgs false
open Go Go.RowKit Go.Proofs

def idxF (f : Int → Bool) : List Int → Nat → Int
  | [], _ => -1
  | x :: r, k => if f x then (k : Int) else idxF f r (k + 1)
theorem idxF_any {f : Int → Bool} : ∀ {l : List Int} {k : Nat}, decide (0 ≤ idxF f l k) = l.any f
  | [], _ => rfl
  | x :: r, k => by
    rw [idxF, List.any_cons, ← idxF_any (l := r) (k := k + 1)]
    cases f x <;> simp
theorem any_in {q : Int} : ∀ {l : List Int}, l.any (fun x => decide (q = x)) = inL l q
  | [] => rfl
  | x :: l => by
    rw [List.any_cons, inL, any_in (l := l)]
    by_cases h : q = x
    · subst h; simp
    · simp [h, Ne.symm h]
theorem any_only {bad : List Int} : ∀ {l : List Int}, (!l.any fun x => !inL bad x) = onlyL bad l
  | [] => rfl
  | x :: l => by
    rw [List.any_cons, onlyL, ← any_only (l := l)]
    cases inL bad x <;> simp

set_option maxHeartbeats 1000000 in
theorem index_spec (l : List Int) (q : Int) (hl : Small l.length) : Pure Tryd.prog 60 [.p (.sl 1 (ints l)), ai q] (ai (idxF (fun x => decide (q = x)) l 0)) := by
  refine pure_of Tryd.func60 rfl Tryd.ntmps60 (by simp) fun F n hF hn hn0 => ?_
  repeat' (first
    | (refine sw_seq ?_) | (refine sw_block ?_) | (refine sw_skip ?_) | (refine sw_ret ?_) | (refine sw_exit ?_)
    | (refine n_then ?_) | (refine r_then ?_) | (refine e_then ?_) | (refine n_block ?_) | (refine r_block ?_) | (refine e_block ?_) | (refine o_block rfl ?_)
    | (refine sw_run (by simp [-getElem?_pos, -List.reduceReplicate, List.getElem?_cons_zero, List.getElem?_cons_succ, ]; exact Is.mk _) ?_)
    | (refine sw_true (by simp [-getElem?_pos, -List.reduceReplicate, List.getElem?_cons_zero, List.getElem?_cons_succ, ]; exact Is.mk _) ?_) | (refine sw_false (by simp [-getElem?_pos, -List.reduceReplicate, List.getElem?_cons_zero, List.getElem?_cons_succ, ]; exact Is.mk _) ?_)
    | (refine sw_yes (by simp; exact Is.mk _) (by assumption) ?_)
    | (refine sw_no (by simp; exact Is.mk _) (by assumption) ?_)
    | (refine sw_if (by simp; exact Is.mk _) (fun _ => ?_) (fun _ => ?_)))
  refine sw_loopI (α := Nat) (fun k => [(0, .p (.sl 1 (ints l))), (1, ai q), (7, ai l.length), (8, ai k)]) (fun _ => []) (fun _ => n)
    (fun k => k ≤ l.length ∧ idxF (fun x => decide (q = x)) (l.drop k) k = idxF (fun x => decide (q = x)) l 0) (fun k => l.length - k) 0 ⟨Nat.zero_le _, rfl⟩ ?_ ?_ ?_
  · intro _
    exact weak_cut_hp (by simp) (by simp) (by simp)
  · intro x
    exact hF
  · rintro k ⟨hk, hR⟩
    by_cases hlt : k < l.length
    · obtain ⟨x, hx⟩ := get_lt hlt
      have hw := wrap_succ hlt hl
      rw [drop_cons hx] at hR
      simp only [idxF] at hR
      by_cases h2 : q = x
      · repeat' (first
          | (refine sw_seq ?_) | (refine sw_block ?_) | (refine sw_skip ?_) | (refine sw_ret ?_) | (refine sw_exit ?_)
          | (refine n_then ?_) | (refine r_then ?_) | (refine e_then ?_) | (refine n_block ?_) | (refine r_block ?_) | (refine e_block ?_) | (refine o_block rfl ?_)
          | (refine sw_run (by simp [-getElem?_pos, -List.reduceReplicate, List.getElem?_cons_zero, List.getElem?_cons_succ, hlt, hx, h2, hw]; exact Is.mk _) ?_)
          | (refine sw_true (by simp [-getElem?_pos, -List.reduceReplicate, List.getElem?_cons_zero, List.getElem?_cons_succ, hlt, hx, h2, hw]; exact Is.mk _) ?_) | (refine sw_false (by simp [-getElem?_pos, -List.reduceReplicate, List.getElem?_cons_zero, List.getElem?_cons_succ, hlt, hx, h2, hw]; exact Is.mk _) ?_)
          | (refine sw_yes (by simp; exact Is.mk _) (by assumption) ?_)
          | (refine sw_no (by simp; exact Is.mk _) (by assumption) ?_)
          | (refine sw_if (by simp; exact Is.mk _) (fun _ => ?_) (fun _ => ?_)))
        exact end_val (by simp; exact Is.mk _) (by simp) ⟨rfl, by rw [← hR]; simp [h2]⟩
      · repeat' (first
          | (refine sw_seq ?_) | (refine sw_block ?_) | (refine sw_skip ?_) | (refine sw_ret ?_) | (refine sw_exit ?_)
          | (refine n_then ?_) | (refine r_then ?_) | (refine e_then ?_) | (refine n_block ?_) | (refine r_block ?_) | (refine e_block ?_) | (refine o_block rfl ?_)
          | (refine sw_run (by simp [-getElem?_pos, -List.reduceReplicate, List.getElem?_cons_zero, List.getElem?_cons_succ, hlt, hx, h2, hw]; exact Is.mk _) ?_)
          | (refine sw_true (by simp [-getElem?_pos, -List.reduceReplicate, List.getElem?_cons_zero, List.getElem?_cons_succ, hlt, hx, h2, hw]; exact Is.mk _) ?_) | (refine sw_false (by simp [-getElem?_pos, -List.reduceReplicate, List.getElem?_cons_zero, List.getElem?_cons_succ, hlt, hx, h2, hw]; exact Is.mk _) ?_)
          | (refine sw_yes (by simp; exact Is.mk _) (by assumption) ?_)
          | (refine sw_no (by simp; exact Is.mk _) (by assumption) ?_)
          | (refine sw_if (by simp; exact Is.mk _) (fun _ => ?_) (fun _ => ?_)))
        exact ⟨k + 1, ⟨by omega, by simpa [h2] using hR⟩, by omega, weak_cut_hp (by simp) (by simp) (by simp)⟩
    · obtain rfl : k = l.length := by omega
      simp only [List.drop_length, idxF] at hR
      repeat' (first
        | (refine sw_seq ?_) | (refine sw_block ?_) | (refine sw_skip ?_) | (refine sw_ret ?_) | (refine sw_exit ?_)
        | (refine n_then ?_) | (refine r_then ?_) | (refine e_then ?_) | (refine n_block ?_) | (refine r_block ?_) | (refine e_block ?_) | (refine o_block rfl ?_)
        | (refine sw_run (by simp [-getElem?_pos, -List.reduceReplicate, List.getElem?_cons_zero, List.getElem?_cons_succ, hlt]; exact Is.mk _) ?_)
        | (refine sw_true (by simp [-getElem?_pos, -List.reduceReplicate, List.getElem?_cons_zero, List.getElem?_cons_succ, hlt]; exact Is.mk _) ?_) | (refine sw_false (by simp [-getElem?_pos, -List.reduceReplicate, List.getElem?_cons_zero, List.getElem?_cons_succ, hlt]; exact Is.mk _) ?_)
        | (refine sw_yes (by simp; exact Is.mk _) (by assumption) ?_)
        | (refine sw_no (by simp; exact Is.mk _) (by assumption) ?_)
        | (refine sw_if (by simp; exact Is.mk _) (fun _ => ?_) (fun _ => ?_)))
      exact end_val (by simp; exact Is.mk _) (by simp) ⟨rfl, by rw [← hR]⟩

set_option maxHeartbeats 1000000 in
theorem contains_spec (l : List Int) (q : Int) (hl : Small l.length) : Pure Tryd.prog 41 [.p (.sl 1 (ints l)), ai q] (ab (inL l q)) := by
  refine pure_of Tryd.func41 rfl Tryd.ntmps41 (by simp) fun F n hF hn hn0 => ?_
  repeat' (first
    | (refine sw_seq ?_) | (refine sw_block ?_) | (refine sw_skip ?_) | (refine sw_ret ?_) | (refine sw_exit ?_)
    | (refine n_then ?_) | (refine r_then ?_) | (refine e_then ?_) | (refine n_block ?_) | (refine r_block ?_) | (refine e_block ?_) | (refine o_block rfl ?_)
    | (refine sw_run (by simp [-getElem?_pos, -List.reduceReplicate, List.getElem?_cons_zero, List.getElem?_cons_succ, ]; exact Is.mk _) ?_)
    | (refine sw_true (by simp [-getElem?_pos, -List.reduceReplicate, List.getElem?_cons_zero, List.getElem?_cons_succ, ]; exact Is.mk _) ?_) | (refine sw_false (by simp [-getElem?_pos, -List.reduceReplicate, List.getElem?_cons_zero, List.getElem?_cons_succ, ]; exact Is.mk _) ?_)
    | (refine sw_yes (by simp; exact Is.mk _) (by assumption) ?_)
    | (refine sw_no (by simp; exact Is.mk _) (by assumption) ?_)
    | (refine sw_if (by simp; exact Is.mk _) (fun _ => ?_) (fun _ => ?_)))
  refine sw_ss ?_
  repeat (refine ss_op rfl (by simp [-getElem?_pos, -List.reduceReplicate, List.getElem?_cons_zero, List.getElem?_cons_succ, ]; exact Is.mk _) ?_)
  refine ss_pure rfl rfl rfl (by simp [-getElem?_pos, -List.reduceReplicate, List.getElem?_cons_zero, List.getElem?_cons_succ]; exact Is.mk _) (by kernel_rfl) (index_spec l q hl) ?_
  refine ss_all (by simp [-getElem?_pos, -List.reduceReplicate, List.getElem?_cons_zero, List.getElem?_cons_succ, ]; exact Is.mk _) ?_
  repeat' (first
    | (refine sw_seq ?_) | (refine sw_block ?_) | (refine sw_skip ?_) | (refine sw_ret ?_) | (refine sw_exit ?_)
    | (refine n_then ?_) | (refine r_then ?_) | (refine e_then ?_) | (refine n_block ?_) | (refine r_block ?_) | (refine e_block ?_) | (refine o_block rfl ?_)
    | (refine sw_run (by simp [-getElem?_pos, -List.reduceReplicate, List.getElem?_cons_zero, List.getElem?_cons_succ, ]; exact Is.mk _) ?_)
    | (refine sw_true (by simp [-getElem?_pos, -List.reduceReplicate, List.getElem?_cons_zero, List.getElem?_cons_succ, ]; exact Is.mk _) ?_) | (refine sw_false (by simp [-getElem?_pos, -List.reduceReplicate, List.getElem?_cons_zero, List.getElem?_cons_succ, ]; exact Is.mk _) ?_)
    | (refine sw_yes (by simp; exact Is.mk _) (by assumption) ?_)
    | (refine sw_no (by simp; exact Is.mk _) (by assumption) ?_)
    | (refine sw_if (by simp; exact Is.mk _) (fun _ => ?_) (fun _ => ?_)))
  exact end_val (by simp; exact Is.mk _) (by simp) ⟨rfl, by rw [← any_in, ← idxF_any (k := 0)]⟩

abbrev scenB (w : Scen) : Blk := .row 0 42 6 [scenR w]
abbrev notIn (id : Nat) : AV := .fn (.func 40) [] [.ptr id 0 0 0]

set_option maxHeartbeats 1000000 in
theorem notin_spec (w : Scen) (id : Nat) (i : Int) (hbad : Small w.bad.length) : Does Tryd.prog 40 [ai i, .ptr id 0 0 0] [(id, scenB w)] [] (ab (!inL w.bad i)) := by
  refine does_of Tryd.func40 rfl Tryd.ntmps40 (by simp) fun F n hF hn hn0 hrd => ?_
  have hid : F id = some (scenB w) := hrd _ (List.mem_cons_self ..)
  unfold scenB at hid
  repeat' (first
    | (refine sw_seq ?_) | (refine sw_block ?_) | (refine sw_skip ?_) | (refine sw_ret ?_) | (refine sw_exit ?_)
    | (refine n_then ?_) | (refine r_then ?_) | (refine e_then ?_) | (refine n_block ?_) | (refine r_block ?_) | (refine e_block ?_) | (refine o_block rfl ?_)
    | (refine sw_run (by simp [-getElem?_pos, -List.reduceReplicate, List.getElem?_cons_zero, List.getElem?_cons_succ, ]; exact Is.mk _) ?_)
    | (refine sw_true (by simp [-getElem?_pos, -List.reduceReplicate, List.getElem?_cons_zero, List.getElem?_cons_succ, ]; exact Is.mk _) ?_) | (refine sw_false (by simp [-getElem?_pos, -List.reduceReplicate, List.getElem?_cons_zero, List.getElem?_cons_succ, ]; exact Is.mk _) ?_)
    | (refine sw_yes (by simp; exact Is.mk _) (by assumption) ?_)
    | (refine sw_no (by simp; exact Is.mk _) (by assumption) ?_)
    | (refine sw_if (by simp; exact Is.mk _) (fun _ => ?_) (fun _ => ?_)))
  refine sw_ss ?_
  repeat (refine ss_op rfl (by simp [-getElem?_pos, -List.reduceReplicate, List.getElem?_cons_zero, List.getElem?_cons_succ, hid]; exact Is.mk _) ?_)
  refine ss_pure rfl rfl rfl (by simp [-getElem?_pos, -List.reduceReplicate, List.getElem?_cons_zero, List.getElem?_cons_succ]; exact Is.mk _) (by kernel_rfl) (contains_spec w.bad i hbad) ?_
  refine ss_all (by simp [-getElem?_pos, -List.reduceReplicate, List.getElem?_cons_zero, List.getElem?_cons_succ, ]; exact Is.mk _) ?_
  repeat' (first
    | (refine sw_seq ?_) | (refine sw_block ?_) | (refine sw_skip ?_) | (refine sw_ret ?_) | (refine sw_exit ?_)
    | (refine n_then ?_) | (refine r_then ?_) | (refine e_then ?_) | (refine n_block ?_) | (refine r_block ?_) | (refine e_block ?_) | (refine o_block rfl ?_)
    | (refine sw_run (by simp [-getElem?_pos, -List.reduceReplicate, List.getElem?_cons_zero, List.getElem?_cons_succ, ]; exact Is.mk _) ?_)
    | (refine sw_true (by simp [-getElem?_pos, -List.reduceReplicate, List.getElem?_cons_zero, List.getElem?_cons_succ, ]; exact Is.mk _) ?_) | (refine sw_false (by simp [-getElem?_pos, -List.reduceReplicate, List.getElem?_cons_zero, List.getElem?_cons_succ, ]; exact Is.mk _) ?_)
    | (refine sw_yes (by simp; exact Is.mk _) (by assumption) ?_)
    | (refine sw_no (by simp; exact Is.mk _) (by assumption) ?_)
    | (refine sw_if (by simp; exact Is.mk _) (fun _ => ?_) (fun _ => ?_)))
  exact end_val (by simp; exact Is.mk _) (by simp) ⟨rfl, rfl⟩

set_option maxHeartbeats 1000000 in
theorem indexf_spec (w : Scen) (id : Nat) (l : List Int) (hbad : Small w.bad.length) (hl : Small l.length) : Does Tryd.prog 59 [.p (.sl 1 (ints l)), notIn id] [(id, scenB w)] [] (ai (idxF (fun x => !inL w.bad x) l 0)) := by
  refine does_of Tryd.func59 rfl Tryd.ntmps59 (by simp) fun F n hF hn hn0 hrd => ?_
  have hid : F id = some (scenB w) := hrd _ (List.mem_cons_self ..)
  repeat' (first
    | (refine sw_seq ?_) | (refine sw_block ?_) | (refine sw_skip ?_) | (refine sw_ret ?_) | (refine sw_exit ?_)
    | (refine n_then ?_) | (refine r_then ?_) | (refine e_then ?_) | (refine n_block ?_) | (refine r_block ?_) | (refine e_block ?_) | (refine o_block rfl ?_)
    | (refine sw_run (by simp [-getElem?_pos, -List.reduceReplicate, List.getElem?_cons_zero, List.getElem?_cons_succ, ]; exact Is.mk _) ?_)
    | (refine sw_true (by simp [-getElem?_pos, -List.reduceReplicate, List.getElem?_cons_zero, List.getElem?_cons_succ, ]; exact Is.mk _) ?_) | (refine sw_false (by simp [-getElem?_pos, -List.reduceReplicate, List.getElem?_cons_zero, List.getElem?_cons_succ, ]; exact Is.mk _) ?_)
    | (refine sw_yes (by simp; exact Is.mk _) (by assumption) ?_)
    | (refine sw_no (by simp; exact Is.mk _) (by assumption) ?_)
    | (refine sw_if (by simp; exact Is.mk _) (fun _ => ?_) (fun _ => ?_)))
  refine sw_loopI (α := Nat) (fun k => [(0, .p (.sl 1 (ints l))), (1, notIn id), (7, ai l.length), (8, ai k)]) (fun _ => []) (fun _ => n)
    (fun k => k ≤ l.length ∧ idxF (fun x => !inL w.bad x) (l.drop k) k = idxF (fun x => !inL w.bad x) l 0) (fun k => l.length - k) 0 ⟨Nat.zero_le _, rfl⟩ ?_ ?_ ?_
  · intro _
    exact weak_cut_hp (by simp [conv, convL, hid]; exact ⟨[], _, ⟨rfl, rfl⟩, by simp [convL], by simp [convL, conv, hid]⟩) (by simp) (by simp)
  · intro x
    exact hF
  · rintro k ⟨hk, hR⟩
    by_cases hlt : k < l.length
    · obtain ⟨x, hx⟩ := get_lt hlt
      have hw := wrap_succ hlt hl
      rw [drop_cons hx] at hR
      simp only [idxF] at hR
      repeat' (first
        | (refine sw_seq ?_) | (refine sw_block ?_) | (refine sw_skip ?_) | (refine sw_ret ?_) | (refine sw_exit ?_)
        | (refine n_then ?_) | (refine r_then ?_) | (refine e_then ?_) | (refine n_block ?_) | (refine r_block ?_) | (refine e_block ?_) | (refine o_block rfl ?_)
        | (refine sw_run (by simp [-getElem?_pos, -List.reduceReplicate, List.getElem?_cons_zero, List.getElem?_cons_succ, hlt, hx]; exact Is.mk _) ?_)
        | (refine sw_true (by simp [-getElem?_pos, -List.reduceReplicate, List.getElem?_cons_zero, List.getElem?_cons_succ, hlt, hx]; exact Is.mk _) ?_) | (refine sw_false (by simp [-getElem?_pos, -List.reduceReplicate, List.getElem?_cons_zero, List.getElem?_cons_succ, hlt, hx]; exact Is.mk _) ?_)
        | (refine sw_yes (by simp; exact Is.mk _) (by assumption) ?_)
        | (refine sw_no (by simp; exact Is.mk _) (by assumption) ?_)
        | (refine sw_if (by simp; exact Is.mk _) (fun _ => ?_) (fun _ => ?_)))
      refine sw_ss ?_
      repeat (refine ss_op rfl (by simp [-getElem?_pos, -List.reduceReplicate, List.getElem?_cons_zero, List.getElem?_cons_succ, hx, hid]; exact Is.mk _) ?_)
      refine ss_does rfl (by simp [-getElem?_pos, -List.reduceReplicate, List.getElem?_cons_zero, List.getElem?_cons_succ, hx, hid]; exact Is.mk _) rfl (by simp [-getElem?_pos, -List.reduceReplicate, List.getElem?_cons_zero, List.getElem?_cons_succ, hx, hid]; exact Is.mk _) (by kernel_rfl) (notin_spec w id x hbad) (by simp [-getElem?_pos, -List.reduceReplicate, List.getElem?_cons_zero, List.getElem?_cons_succ, hx, hid]) (by simp [-getElem?_pos, -List.reduceReplicate, List.getElem?_cons_zero, List.getElem?_cons_succ]) ?_
      cases hb : inL w.bad x
      · refine ss_all (by simp [-getElem?_pos, -List.reduceReplicate, List.getElem?_cons_zero, List.getElem?_cons_succ, ]; exact Is.mk _) ?_
        repeat' (first
          | (refine sw_seq ?_) | (refine sw_block ?_) | (refine sw_skip ?_) | (refine sw_ret ?_) | (refine sw_exit ?_)
          | (refine n_then ?_) | (refine r_then ?_) | (refine e_then ?_) | (refine n_block ?_) | (refine r_block ?_) | (refine e_block ?_) | (refine o_block rfl ?_)
          | (refine sw_run (by simp [-getElem?_pos, -List.reduceReplicate, List.getElem?_cons_zero, List.getElem?_cons_succ, ]; exact Is.mk _) ?_)
          | (refine sw_true (by simp [-getElem?_pos, -List.reduceReplicate, List.getElem?_cons_zero, List.getElem?_cons_succ, ]; exact Is.mk _) ?_) | (refine sw_false (by simp [-getElem?_pos, -List.reduceReplicate, List.getElem?_cons_zero, List.getElem?_cons_succ, ]; exact Is.mk _) ?_)
          | (refine sw_yes (by simp; exact Is.mk _) (by assumption) ?_)
          | (refine sw_no (by simp; exact Is.mk _) (by assumption) ?_)
          | (refine sw_if (by simp; exact Is.mk _) (fun _ => ?_) (fun _ => ?_)))
        exact end_val (by simp; exact Is.mk _) (by simp) ⟨rfl, by rw [← hR]; simp [hb]⟩
      · refine ss_all (by simp [-getElem?_pos, -List.reduceReplicate, List.getElem?_cons_zero, List.getElem?_cons_succ, ]; exact Is.mk _) ?_
        repeat' (first
          | (refine sw_seq ?_) | (refine sw_block ?_) | (refine sw_skip ?_) | (refine sw_ret ?_) | (refine sw_exit ?_)
          | (refine n_then ?_) | (refine r_then ?_) | (refine e_then ?_) | (refine n_block ?_) | (refine r_block ?_) | (refine e_block ?_) | (refine o_block rfl ?_)
          | (refine sw_run (by simp [-getElem?_pos, -List.reduceReplicate, List.getElem?_cons_zero, List.getElem?_cons_succ, hw]; exact Is.mk _) ?_)
          | (refine sw_true (by simp [-getElem?_pos, -List.reduceReplicate, List.getElem?_cons_zero, List.getElem?_cons_succ, hw]; exact Is.mk _) ?_) | (refine sw_false (by simp [-getElem?_pos, -List.reduceReplicate, List.getElem?_cons_zero, List.getElem?_cons_succ, hw]; exact Is.mk _) ?_)
          | (refine sw_yes (by simp; exact Is.mk _) (by assumption) ?_)
          | (refine sw_no (by simp; exact Is.mk _) (by assumption) ?_)
          | (refine sw_if (by simp; exact Is.mk _) (fun _ => ?_) (fun _ => ?_)))
        exact ⟨k + 1, ⟨by omega, by simpa [hb] using hR⟩, by omega, weak_cut_hp (by simp [conv, convL, hid]; exact ⟨[], _, ⟨rfl, rfl⟩, by simp [convL], by simp [convL, conv, hid]⟩) (by simp) (by simp)⟩
    · obtain rfl : k = l.length := by omega
      simp only [List.drop_length, idxF] at hR
      repeat' (first
        | (refine sw_seq ?_) | (refine sw_block ?_) | (refine sw_skip ?_) | (refine sw_ret ?_) | (refine sw_exit ?_)
        | (refine n_then ?_) | (refine r_then ?_) | (refine e_then ?_) | (refine n_block ?_) | (refine r_block ?_) | (refine e_block ?_) | (refine o_block rfl ?_)
        | (refine sw_run (by simp [-getElem?_pos, -List.reduceReplicate, List.getElem?_cons_zero, List.getElem?_cons_succ, hlt]; exact Is.mk _) ?_)
        | (refine sw_true (by simp [-getElem?_pos, -List.reduceReplicate, List.getElem?_cons_zero, List.getElem?_cons_succ, hlt]; exact Is.mk _) ?_) | (refine sw_false (by simp [-getElem?_pos, -List.reduceReplicate, List.getElem?_cons_zero, List.getElem?_cons_succ, hlt]; exact Is.mk _) ?_)
        | (refine sw_yes (by simp; exact Is.mk _) (by assumption) ?_)
        | (refine sw_no (by simp; exact Is.mk _) (by assumption) ?_)
        | (refine sw_if (by simp; exact Is.mk _) (fun _ => ?_) (fun _ => ?_)))
      exact end_val (by simp; exact Is.mk _) (by simp) ⟨rfl, by rw [← hR]⟩

set_option maxHeartbeats 1000000 in
theorem containsf_spec (w : Scen) (id : Nat) (l : List Int) (hbad : Small w.bad.length) (hl : Small l.length) : Does Tryd.prog 39 [.p (.sl 1 (ints l)), notIn id] [(id, scenB w)] [] (ab (l.any fun x => !inL w.bad x)) := by
  refine does_of Tryd.func39 rfl Tryd.ntmps39 (by simp) fun F n hF hn hn0 hrd => ?_
  have hid : F id = some (scenB w) := hrd _ (List.mem_cons_self ..)
  repeat' (first
    | (refine sw_seq ?_) | (refine sw_block ?_) | (refine sw_skip ?_) | (refine sw_ret ?_) | (refine sw_exit ?_)
    | (refine n_then ?_) | (refine r_then ?_) | (refine e_then ?_) | (refine n_block ?_) | (refine r_block ?_) | (refine e_block ?_) | (refine o_block rfl ?_)
    | (refine sw_run (by simp [-getElem?_pos, -List.reduceReplicate, List.getElem?_cons_zero, List.getElem?_cons_succ, ]; exact Is.mk _) ?_)
    | (refine sw_true (by simp [-getElem?_pos, -List.reduceReplicate, List.getElem?_cons_zero, List.getElem?_cons_succ, ]; exact Is.mk _) ?_) | (refine sw_false (by simp [-getElem?_pos, -List.reduceReplicate, List.getElem?_cons_zero, List.getElem?_cons_succ, ]; exact Is.mk _) ?_)
    | (refine sw_yes (by simp; exact Is.mk _) (by assumption) ?_)
    | (refine sw_no (by simp; exact Is.mk _) (by assumption) ?_)
    | (refine sw_if (by simp; exact Is.mk _) (fun _ => ?_) (fun _ => ?_)))
  refine sw_ss ?_
  repeat (refine ss_op rfl (by simp [-getElem?_pos, -List.reduceReplicate, List.getElem?_cons_zero, List.getElem?_cons_succ, hid]; exact Is.mk _) ?_)
  refine ss_does rfl (by simp [-getElem?_pos, -List.reduceReplicate, List.getElem?_cons_zero, List.getElem?_cons_succ, hid]; exact Is.mk _) rfl (by simp [-getElem?_pos, -List.reduceReplicate, List.getElem?_cons_zero, List.getElem?_cons_succ, hid]; exact Is.mk _) (by kernel_rfl) (indexf_spec w id l hbad hl) (by simp [-getElem?_pos, -List.reduceReplicate, List.getElem?_cons_zero, List.getElem?_cons_succ, hid]) (by simp [-getElem?_pos, -List.reduceReplicate, List.getElem?_cons_zero, List.getElem?_cons_succ]) ?_
  refine ss_all (by simp [-getElem?_pos, -List.reduceReplicate, List.getElem?_cons_zero, List.getElem?_cons_succ, ]; exact Is.mk _) ?_
  repeat' (first
    | (refine sw_seq ?_) | (refine sw_block ?_) | (refine sw_skip ?_) | (refine sw_ret ?_) | (refine sw_exit ?_)
    | (refine n_then ?_) | (refine r_then ?_) | (refine e_then ?_) | (refine n_block ?_) | (refine r_block ?_) | (refine e_block ?_) | (refine o_block rfl ?_)
    | (refine sw_run (by simp [-getElem?_pos, -List.reduceReplicate, List.getElem?_cons_zero, List.getElem?_cons_succ, ]; exact Is.mk _) ?_)
    | (refine sw_true (by simp [-getElem?_pos, -List.reduceReplicate, List.getElem?_cons_zero, List.getElem?_cons_succ, ]; exact Is.mk _) ?_) | (refine sw_false (by simp [-getElem?_pos, -List.reduceReplicate, List.getElem?_cons_zero, List.getElem?_cons_succ, ]; exact Is.mk _) ?_)
    | (refine sw_yes (by simp; exact Is.mk _) (by assumption) ?_)
    | (refine sw_no (by simp; exact Is.mk _) (by assumption) ?_)
    | (refine sw_if (by simp; exact Is.mk _) (fun _ => ?_) (fun _ => ?_)))
  exact end_val (by simp; exact Is.mk _) (by simp) ⟨rfl, by rw [← idxF_any (k := 0)]⟩

set_option maxHeartbeats 1000000 in
theorem only_spec (w : Scen) (r : Res) (hbad : Small w.bad.length) (hin : ∀ x ∈ w.bad, 0 ≤ x ∧ x < 14) (h0 : 0 ≤ w.n) (h13 : w.n ≤ 13) (hdet : ∀ x ∈ r.det, Small x.length) (hdl : Small r.det.length) (hdi : Small r.dis.length) :
    Pure Tryd.prog 19 [scenA w, resA r] (ab (onlyL w.bad (detL w r))) := by
  refine pure_of Tryd.func19 rfl Tryd.ntmps19 (by simp) fun F n hF hn hn0 => ?_
  have hdl2 := det_len w r h13
  have hds : Small (detL w r).length := Small.mk (by omega)
  repeat' (first
    | (refine sw_seq ?_) | (refine sw_block ?_) | (refine sw_skip ?_) | (refine sw_ret ?_) | (refine sw_exit ?_)
    | (refine n_then ?_) | (refine r_then ?_) | (refine e_then ?_) | (refine n_block ?_) | (refine r_block ?_) | (refine e_block ?_) | (refine o_block rfl ?_)
    | (refine sw_run (by simp [-getElem?_pos, -List.reduceReplicate, List.getElem?_cons_zero, List.getElem?_cons_succ, ]; exact Is.mk _) ?_)
    | (refine sw_true (by simp [-getElem?_pos, -List.reduceReplicate, List.getElem?_cons_zero, List.getElem?_cons_succ, ]; exact Is.mk _) ?_) | (refine sw_false (by simp [-getElem?_pos, -List.reduceReplicate, List.getElem?_cons_zero, List.getElem?_cons_succ, ]; exact Is.mk _) ?_)
    | (refine sw_yes (by simp; exact Is.mk _) (by assumption) ?_)
    | (refine sw_no (by simp; exact Is.mk _) (by assumption) ?_)
    | (refine sw_if (by simp; exact Is.mk _) (fun _ => ?_) (fun _ => ?_)))
  refine sw_ss ?_
  repeat (refine ss_op rfl (by simp [-getElem?_pos, -List.reduceReplicate, List.getElem?_cons_zero, List.getElem?_cons_succ, ]; exact Is.mk _) ?_)
  refine ss_pure rfl rfl rfl (by simp [-getElem?_pos, -List.reduceReplicate, List.getElem?_cons_zero, List.getElem?_cons_succ]; exact Is.mk _) (by kernel_rfl) (det_spec w r hbad hin h0 h13 hdet hdl hdi) ?_
  repeat (refine ss_op rfl (by simp [-getElem?_pos, -List.reduceReplicate, List.getElem?_cons_zero, List.getElem?_cons_succ, ]; exact Is.mk _) ?_)
  refine ss_does rfl (by simp [-getElem?_pos, -List.reduceReplicate, List.getElem?_cons_zero, List.getElem?_cons_succ, ]; exact Is.mk _) rfl (by simp [-getElem?_pos, -List.reduceReplicate, List.getElem?_cons_zero, List.getElem?_cons_succ, ]; exact Is.mk _) (by kernel_rfl) (containsf_spec w n (detL w r) hbad hds) (by simp [-getElem?_pos, -List.reduceReplicate, List.getElem?_cons_zero, List.getElem?_cons_succ, ]) (by simp [-getElem?_pos, -List.reduceReplicate, List.getElem?_cons_zero, List.getElem?_cons_succ]) ?_
  refine ss_all (by simp [-getElem?_pos, -List.reduceReplicate, List.getElem?_cons_zero, List.getElem?_cons_succ, ]; exact Is.mk _) ?_
  repeat' (first
    | (refine sw_seq ?_) | (refine sw_block ?_) | (refine sw_skip ?_) | (refine sw_ret ?_) | (refine sw_exit ?_)
    | (refine n_then ?_) | (refine r_then ?_) | (refine e_then ?_) | (refine n_block ?_) | (refine r_block ?_) | (refine e_block ?_) | (refine o_block rfl ?_)
    | (refine sw_run (by simp [-getElem?_pos, -List.reduceReplicate, List.getElem?_cons_zero, List.getElem?_cons_succ, ]; exact Is.mk _) ?_)
    | (refine sw_true (by simp [-getElem?_pos, -List.reduceReplicate, List.getElem?_cons_zero, List.getElem?_cons_succ, ]; exact Is.mk _) ?_) | (refine sw_false (by simp [-getElem?_pos, -List.reduceReplicate, List.getElem?_cons_zero, List.getElem?_cons_succ, ]; exact Is.mk _) ?_)
    | (refine sw_yes (by simp; exact Is.mk _) (by assumption) ?_)
    | (refine sw_no (by simp; exact Is.mk _) (by assumption) ?_)
    | (refine sw_if (by simp; exact Is.mk _) (fun _ => ?_) (fun _ => ?_)))
  exact end_val (by simp; exact Is.mk _) (by simp [hn0, hn]) ⟨rfl, by rw [any_only]⟩

end Go.AM
