/- few; In, Places, Numbers; members, HonestParties. -/
import Derived.Test.YtmljoaiedihoiaaDoorB3
import Derived.Test.YtmljoaiedihoiaaDoorAm25
namespace Go.AM
set_option linter.unusedVariables false
set_option linter.unusedSimpArgs false
open Go Go.RowKit Go.Proofs

set_option maxHeartbeats 1000000 in
theorem few_spec (r : Res) : Pure Tryd.prog 14 [resA r] (ab (fewR r)) := by
  refine pure_of Tryd.func14 rfl Tryd.ntmps14 (by simp) fun F n hF hn hn0 => ?_
  unfold fewR
  repeat' (first
    | (refine sw_seq ?_) | (refine sw_block ?_) | (refine sw_skip ?_) | (refine sw_ret ?_) | (refine sw_exit ?_)
    | (refine n_then ?_) | (refine r_then ?_) | (refine e_then ?_) | (refine n_block ?_) | (refine r_block ?_) | (refine e_block ?_) | (refine o_block rfl ?_)
    | (refine sw_run (by simp [-getElem?_pos, List.getElem?_cons_zero, List.getElem?_cons_succ, ]; exact Is.mk _) ?_)
    | (refine sw_true (by simp [-getElem?_pos, List.getElem?_cons_zero, List.getElem?_cons_succ, ]; exact Is.mk _) ?_) | (refine sw_false (by simp [-getElem?_pos, List.getElem?_cons_zero, List.getElem?_cons_succ, ]; exact Is.mk _) ?_)
    | (refine sw_yes (by simp; exact Is.mk _) (by assumption) ?_)
    | (refine sw_no (by simp; exact Is.mk _) (by assumption) ?_)
    | (refine sw_if (by simp; exact Is.mk _) (fun _ => ?_) (fun _ => ?_)))
  refine sw_loopI (α := Nat) (fun k => [(1, .ptr n 0 0 0), (3, ai k)]) (fun _ => [(n, .row 0 46 5 [resR r])]) (fun _ => n + 1)
    (fun k => k ≤ r.det.length ∧ k ≤ 31 ∧ shortL 30 (r.det.drop k) = shortL 30 r.det) (fun k => r.det.length - k) 0 ⟨Nat.zero_le _, by omega, rfl⟩ ?_ ?_ ?_
  · intro _
    exact weak_cut_hp (by simp) (by simp) (by simp)
  · intro x
    exact fresh_of hF (by omega) (by simp)
  · rintro k ⟨hk, h31, hR⟩
    have hw : IntKind.i64.wrap ((k : Int) + 1) = ((k + 1 : Nat) : Int) := by rw [i64_in (by omega)]; simp
    by_cases hlt : k < r.det.length
    · by_cases h30 : k ≤ 30
      · obtain ⟨x, hx⟩ := get_lt hlt
        have h30' : (k : Int) ≤ 30 := by omega
        rw [drop_cons hx] at hR
        simp only [shortL] at hR
        by_cases c1 : 30 < x.length
        · have e4 : ¬ (x.length : Int) ≤ 30 := by omega
          have c1' : (30 : Int) < x.length := by omega
          repeat' (first
            | (refine sw_seq ?_) | (refine sw_block ?_) | (refine sw_skip ?_) | (refine sw_ret ?_) | (refine sw_exit ?_)
            | (refine n_then ?_) | (refine r_then ?_) | (refine e_then ?_) | (refine n_block ?_) | (refine r_block ?_) | (refine e_block ?_) | (refine o_block rfl ?_)
            | (refine sw_run (by simp [-getElem?_pos, List.getElem?_cons_zero, List.getElem?_cons_succ, hlt, h30, h30', hx, c1, c1']; exact Is.mk _) ?_)
            | (refine sw_true (by simp [-getElem?_pos, List.getElem?_cons_zero, List.getElem?_cons_succ, hlt, h30, h30', hx, c1, c1']; exact Is.mk _) ?_) | (refine sw_false (by simp [-getElem?_pos, List.getElem?_cons_zero, List.getElem?_cons_succ, hlt, h30, h30', hx, c1, c1']; exact Is.mk _) ?_)
            | (refine sw_yes (by simp; exact Is.mk _) (by assumption) ?_)
            | (refine sw_no (by simp; exact Is.mk _) (by assumption) ?_)
            | (refine sw_if (by simp; exact Is.mk _) (fun _ => ?_) (fun _ => ?_)))
          exact end_val (by simp; exact Is.mk _) (by simp [hn0, hn]) ⟨rfl, by simp [← hR, e4]⟩
        · have e4 : (x.length : Int) ≤ 30 := by omega
          have c1' : ¬ (30 : Int) < x.length := by omega
          repeat' (first
            | (refine sw_seq ?_) | (refine sw_block ?_) | (refine sw_skip ?_) | (refine sw_ret ?_) | (refine sw_exit ?_)
            | (refine n_then ?_) | (refine r_then ?_) | (refine e_then ?_) | (refine n_block ?_) | (refine r_block ?_) | (refine e_block ?_) | (refine o_block rfl ?_)
            | (refine sw_run (by simp [-getElem?_pos, List.getElem?_cons_zero, List.getElem?_cons_succ, hlt, h30, h30', hx, c1, c1', hw]; exact Is.mk _) ?_)
            | (refine sw_true (by simp [-getElem?_pos, List.getElem?_cons_zero, List.getElem?_cons_succ, hlt, h30, h30', hx, c1, c1', hw]; exact Is.mk _) ?_) | (refine sw_false (by simp [-getElem?_pos, List.getElem?_cons_zero, List.getElem?_cons_succ, hlt, h30, h30', hx, c1, c1', hw]; exact Is.mk _) ?_)
            | (refine sw_yes (by simp; exact Is.mk _) (by assumption) ?_)
            | (refine sw_no (by simp; exact Is.mk _) (by assumption) ?_)
            | (refine sw_if (by simp; exact Is.mk _) (fun _ => ?_) (fun _ => ?_)))
          exact ⟨k + 1, ⟨by omega, by omega, by simpa [e4] using hR⟩, by omega, weak_cut_hp (by simp) (by simp) (by simp)⟩
      · have h30' : ¬ (k : Int) ≤ 30 := by omega
        have e5 : ¬ (r.det.length : Int) ≤ 30 := by omega
        repeat' (first
          | (refine sw_seq ?_) | (refine sw_block ?_) | (refine sw_skip ?_) | (refine sw_ret ?_) | (refine sw_exit ?_)
          | (refine n_then ?_) | (refine r_then ?_) | (refine e_then ?_) | (refine n_block ?_) | (refine r_block ?_) | (refine e_block ?_) | (refine o_block rfl ?_)
          | (refine sw_run (by simp [-getElem?_pos, List.getElem?_cons_zero, List.getElem?_cons_succ, hlt, h30, h30', e5]; exact Is.mk _) ?_)
          | (refine sw_true (by simp [-getElem?_pos, List.getElem?_cons_zero, List.getElem?_cons_succ, hlt, h30, h30', e5]; exact Is.mk _) ?_) | (refine sw_false (by simp [-getElem?_pos, List.getElem?_cons_zero, List.getElem?_cons_succ, hlt, h30, h30', e5]; exact Is.mk _) ?_)
          | (refine sw_yes (by simp; exact Is.mk _) (by assumption) ?_)
          | (refine sw_no (by simp; exact Is.mk _) (by assumption) ?_)
          | (refine sw_if (by simp; exact Is.mk _) (fun _ => ?_) (fun _ => ?_)))
        exact end_val (by simp; exact Is.mk _) (by simp [hn0, hn]) ⟨rfl, by simp [e5]⟩
    · obtain rfl : k = r.det.length := by omega
      simp only [List.drop_length, shortL] at hR
      by_cases c2 : (r.det.length : Int) ≤ 30
      · repeat' (first
          | (refine sw_seq ?_) | (refine sw_block ?_) | (refine sw_skip ?_) | (refine sw_ret ?_) | (refine sw_exit ?_)
          | (refine n_then ?_) | (refine r_then ?_) | (refine e_then ?_) | (refine n_block ?_) | (refine r_block ?_) | (refine e_block ?_) | (refine o_block rfl ?_)
          | (refine sw_run (by simp [-getElem?_pos, List.getElem?_cons_zero, List.getElem?_cons_succ, hlt, c2]; exact Is.mk _) ?_)
          | (refine sw_true (by simp [-getElem?_pos, List.getElem?_cons_zero, List.getElem?_cons_succ, hlt, c2]; exact Is.mk _) ?_) | (refine sw_false (by simp [-getElem?_pos, List.getElem?_cons_zero, List.getElem?_cons_succ, hlt, c2]; exact Is.mk _) ?_)
          | (refine sw_yes (by simp; exact Is.mk _) (by assumption) ?_)
          | (refine sw_no (by simp; exact Is.mk _) (by assumption) ?_)
          | (refine sw_if (by simp; exact Is.mk _) (fun _ => ?_) (fun _ => ?_)))
        exact end_val (by simp; exact Is.mk _) (by simp [hn0, hn]) ⟨rfl, by simp [← hR, c2]⟩
      · repeat' (first
          | (refine sw_seq ?_) | (refine sw_block ?_) | (refine sw_skip ?_) | (refine sw_ret ?_) | (refine sw_exit ?_)
          | (refine n_then ?_) | (refine r_then ?_) | (refine e_then ?_) | (refine n_block ?_) | (refine r_block ?_) | (refine e_block ?_) | (refine o_block rfl ?_)
          | (refine sw_run (by simp [-getElem?_pos, List.getElem?_cons_zero, List.getElem?_cons_succ, hlt, c2]; exact Is.mk _) ?_)
          | (refine sw_true (by simp [-getElem?_pos, List.getElem?_cons_zero, List.getElem?_cons_succ, hlt, c2]; exact Is.mk _) ?_) | (refine sw_false (by simp [-getElem?_pos, List.getElem?_cons_zero, List.getElem?_cons_succ, hlt, c2]; exact Is.mk _) ?_)
          | (refine sw_yes (by simp; exact Is.mk _) (by assumption) ?_)
          | (refine sw_no (by simp; exact Is.mk _) (by assumption) ?_)
          | (refine sw_if (by simp; exact Is.mk _) (fun _ => ?_) (fun _ => ?_)))
        exact end_val (by simp; exact Is.mk _) (by simp [hn0, hn]) ⟨rfl, by simp [← hR, c2]⟩

/-! ### In -/

def inL : List Int → Int → Bool
  | [], _ => false
  | x :: r, k => decide (x = k) || inL r k

set_option maxHeartbeats 1000000 in
theorem in_spec (l : List Int) (q : Int) (hl : Small l.length) : Pure Tryd.prog 23 [.p (.sl 1 (ints l)), ai q] (ab (inL l q)) := by
  refine pure_of Tryd.func23 rfl Tryd.ntmps23 (by simp) fun F n hF hn hn0 => ?_
  repeat' (first
    | (refine sw_seq ?_) | (refine sw_block ?_) | (refine sw_skip ?_) | (refine sw_ret ?_) | (refine sw_exit ?_)
    | (refine n_then ?_) | (refine r_then ?_) | (refine e_then ?_) | (refine n_block ?_) | (refine r_block ?_) | (refine e_block ?_) | (refine o_block rfl ?_)
    | (refine sw_run (by simp [-getElem?_pos, List.getElem?_cons_zero, List.getElem?_cons_succ, ]; exact Is.mk _) ?_)
    | (refine sw_true (by simp [-getElem?_pos, List.getElem?_cons_zero, List.getElem?_cons_succ, ]; exact Is.mk _) ?_) | (refine sw_false (by simp [-getElem?_pos, List.getElem?_cons_zero, List.getElem?_cons_succ, ]; exact Is.mk _) ?_)
    | (refine sw_yes (by simp; exact Is.mk _) (by assumption) ?_)
    | (refine sw_no (by simp; exact Is.mk _) (by assumption) ?_)
    | (refine sw_if (by simp; exact Is.mk _) (fun _ => ?_) (fun _ => ?_)))
  refine sw_loopI (α := Nat) (fun k => [(0, .p (.sl 1 (ints l))), (1, ai q), (5, ai k)]) (fun _ => []) (fun _ => n)
    (fun k => k ≤ l.length ∧ inL (l.drop k) q = inL l q) (fun k => l.length - k) 0 ⟨Nat.zero_le _, rfl⟩ ?_ ?_ ?_
  · intro _
    exact weak_cut_hp (by simp) (by simp) (by simp)
  · intro x
    exact hF
  · rintro k ⟨hk, hR⟩
    by_cases hlt : k < l.length
    · obtain ⟨x, hx⟩ := get_lt hlt
      have hw := wrap_succ hlt hl
      rw [drop_cons hx] at hR
      simp only [inL] at hR
      by_cases h2 : x = q
      · repeat' (first
          | (refine sw_seq ?_) | (refine sw_block ?_) | (refine sw_skip ?_) | (refine sw_ret ?_) | (refine sw_exit ?_)
          | (refine n_then ?_) | (refine r_then ?_) | (refine e_then ?_) | (refine n_block ?_) | (refine r_block ?_) | (refine e_block ?_) | (refine o_block rfl ?_)
          | (refine sw_run (by simp [-getElem?_pos, List.getElem?_cons_zero, List.getElem?_cons_succ, hx, h2]; exact Is.mk _) ?_)
          | (refine sw_true (by simp [-getElem?_pos, List.getElem?_cons_zero, List.getElem?_cons_succ, hx, h2]; exact Is.mk _) ?_) | (refine sw_false (by simp [-getElem?_pos, List.getElem?_cons_zero, List.getElem?_cons_succ, hx, h2]; exact Is.mk _) ?_)
          | (refine sw_yes (by simp; exact Is.mk _) (by assumption) ?_)
          | (refine sw_no (by simp; exact Is.mk _) (by assumption) ?_)
          | (refine sw_if (by simp; exact Is.mk _) (fun _ => ?_) (fun _ => ?_)))
        exact end_val (by simp; exact Is.mk _) (by simp) ⟨rfl, by simp [← hR, h2]⟩
      · repeat' (first
          | (refine sw_seq ?_) | (refine sw_block ?_) | (refine sw_skip ?_) | (refine sw_ret ?_) | (refine sw_exit ?_)
          | (refine n_then ?_) | (refine r_then ?_) | (refine e_then ?_) | (refine n_block ?_) | (refine r_block ?_) | (refine e_block ?_) | (refine o_block rfl ?_)
          | (refine sw_run (by simp [-getElem?_pos, List.getElem?_cons_zero, List.getElem?_cons_succ, hx, h2, hw]; exact Is.mk _) ?_)
          | (refine sw_true (by simp [-getElem?_pos, List.getElem?_cons_zero, List.getElem?_cons_succ, hx, h2, hw]; exact Is.mk _) ?_) | (refine sw_false (by simp [-getElem?_pos, List.getElem?_cons_zero, List.getElem?_cons_succ, hx, h2, hw]; exact Is.mk _) ?_)
          | (refine sw_yes (by simp; exact Is.mk _) (by assumption) ?_)
          | (refine sw_no (by simp; exact Is.mk _) (by assumption) ?_)
          | (refine sw_if (by simp; exact Is.mk _) (fun _ => ?_) (fun _ => ?_)))
        exact ⟨k + 1, ⟨by omega, by simpa [h2] using hR⟩, by omega, weak_cut_hp (by simp) (by simp) (by simp)⟩
    · obtain rfl : k = l.length := by omega
      simp only [List.drop_length, inL] at hR
      repeat' (first
        | (refine sw_seq ?_) | (refine sw_block ?_) | (refine sw_skip ?_) | (refine sw_ret ?_) | (refine sw_exit ?_)
        | (refine n_then ?_) | (refine r_then ?_) | (refine e_then ?_) | (refine n_block ?_) | (refine r_block ?_) | (refine e_block ?_) | (refine o_block rfl ?_)
        | (refine sw_run (by simp [-getElem?_pos, List.getElem?_cons_zero, List.getElem?_cons_succ, ]; exact Is.mk _) ?_)
        | (refine sw_true (by simp [-getElem?_pos, List.getElem?_cons_zero, List.getElem?_cons_succ, ]; exact Is.mk _) ?_) | (refine sw_false (by simp [-getElem?_pos, List.getElem?_cons_zero, List.getElem?_cons_succ, ]; exact Is.mk _) ?_)
        | (refine sw_yes (by simp; exact Is.mk _) (by assumption) ?_)
        | (refine sw_no (by simp; exact Is.mk _) (by assumption) ?_)
        | (refine sw_if (by simp; exact Is.mk _) (fun _ => ?_) (fun _ => ?_)))
      exact end_val (by simp; exact Is.mk _) (by simp) ⟨rfl, by simp [← hR]⟩

theorem inL_iff {q : Int} : ∀ {l : List Int}, inL l q = true ↔ q ∈ l
  | [] => by simp [inL]
  | x :: l => by
    simp only [inL, Bool.or_eq_true, decide_eq_true_eq, inL_iff (l := l), List.mem_cons]
    exact or_congr eq_comm Iff.rfl

/-! ### Numbers -/

set_option maxHeartbeats 1000000 in
theorem places_spec (a b : List Int) (ha : Small a.length) : Pure Tryd.prog 34 [.p (.sl 1 (ints a)), .p (.sl 1 (ints b))] (ab (decide (a = b))) := by
  refine pure_of Tryd.func34 rfl Tryd.ntmps34 (by simp) fun F n hF hn hn0 => ?_
  by_cases h0 : (a.length : Int) = b.length
  · repeat' (first
      | (refine sw_seq ?_) | (refine sw_block ?_) | (refine sw_skip ?_) | (refine sw_ret ?_) | (refine sw_exit ?_)
      | (refine n_then ?_) | (refine r_then ?_) | (refine e_then ?_) | (refine n_block ?_) | (refine r_block ?_) | (refine e_block ?_) | (refine o_block rfl ?_)
      | (refine sw_run (by simp [-getElem?_pos, List.getElem?_cons_zero, List.getElem?_cons_succ, h0]; exact Is.mk _) ?_)
      | (refine sw_true (by simp [-getElem?_pos, List.getElem?_cons_zero, List.getElem?_cons_succ, h0]; exact Is.mk _) ?_) | (refine sw_false (by simp [-getElem?_pos, List.getElem?_cons_zero, List.getElem?_cons_succ, h0]; exact Is.mk _) ?_)
      | (refine sw_yes (by simp; exact Is.mk _) (by assumption) ?_)
      | (refine sw_no (by simp; exact Is.mk _) (by assumption) ?_)
      | (refine sw_if (by simp; exact Is.mk _) (fun _ => ?_) (fun _ => ?_)))
    refine sw_loopI (α := Nat) (fun k => [(0, .p (.sl 1 (ints a))), (1, .p (.sl 1 (ints b))), (5, ai k)]) (fun _ => []) (fun _ => n)
      (fun k => k ≤ a.length ∧ (a.drop k = b.drop k ↔ a = b)) (fun k => a.length - k) 0 ⟨Nat.zero_le _, by simp⟩ ?_ ?_ ?_
    · intro _
      exact weak_cut_hp (by simp) (by simp) (by simp)
    · intro x
      exact hF
    · rintro k ⟨hk, hR⟩
      by_cases hlt : k < a.length
      · obtain ⟨x, hx⟩ := get_lt hlt
        obtain ⟨y, hy⟩ := get_lt (l := b) (k := k) (by omega)
        have hw := wrap_succ hlt ha
        rw [drop_cons hx, drop_cons hy] at hR
        repeat' (first
          | (refine sw_seq ?_) | (refine sw_block ?_) | (refine sw_skip ?_) | (refine sw_ret ?_) | (refine sw_exit ?_)
          | (refine n_then ?_) | (refine r_then ?_) | (refine e_then ?_) | (refine n_block ?_) | (refine r_block ?_) | (refine e_block ?_) | (refine o_block rfl ?_)
          | (refine sw_run (by simp [-getElem?_pos, List.getElem?_cons_zero, List.getElem?_cons_succ, hlt]; exact Is.mk _) ?_)
          | (refine sw_true (by simp [-getElem?_pos, List.getElem?_cons_zero, List.getElem?_cons_succ, hlt]; exact Is.mk _) ?_) | (refine sw_false (by simp [-getElem?_pos, List.getElem?_cons_zero, List.getElem?_cons_succ, hlt]; exact Is.mk _) ?_)
          | (refine sw_yes (by simp; exact Is.mk _) (by assumption) ?_)
          | (refine sw_no (by simp; exact Is.mk _) (by assumption) ?_)
          | (refine sw_if (by simp; exact Is.mk _) (fun _ => ?_) (fun _ => ?_)))
        by_cases h2 : x = y
        · refine sw_draw (us := []) mixed (by kernel_rfl) (by kernel_rfl) (ds_all (by simp [-getElem?_pos, List.getElem?_cons_zero, List.getElem?_cons_succ, hx, hy, h2]; exact Is.mk _) (by simp [disAll, EDisj, wids, rids]) ?_)
          repeat' (first
            | (refine sw_seq ?_) | (refine sw_block ?_) | (refine sw_skip ?_) | (refine sw_ret ?_) | (refine sw_exit ?_)
            | (refine n_then ?_) | (refine r_then ?_) | (refine e_then ?_) | (refine n_block ?_) | (refine r_block ?_) | (refine e_block ?_) | (refine o_block rfl ?_)
            | (refine sw_run (by simp [-getElem?_pos, List.getElem?_cons_zero, List.getElem?_cons_succ, hw]; exact Is.mk _) ?_)
            | (refine sw_true (by simp [-getElem?_pos, List.getElem?_cons_zero, List.getElem?_cons_succ, hw]; exact Is.mk _) ?_) | (refine sw_false (by simp [-getElem?_pos, List.getElem?_cons_zero, List.getElem?_cons_succ, hw]; exact Is.mk _) ?_)
            | (refine sw_yes (by simp; exact Is.mk _) (by assumption) ?_)
            | (refine sw_no (by simp; exact Is.mk _) (by assumption) ?_)
            | (refine sw_if (by simp; exact Is.mk _) (fun _ => ?_) (fun _ => ?_)))
          exact ⟨k + 1, ⟨by omega, by simpa [h2] using hR⟩, by omega, weak_cut_hp (by simp) (by simp) (by simp)⟩
        · refine sw_draw (us := []) mixed (by kernel_rfl) (by kernel_rfl) (ds_all (by simp [-getElem?_pos, List.getElem?_cons_zero, List.getElem?_cons_succ, hx, hy, h2]; exact Is.mk _) (by simp [disAll, EDisj, wids, rids]) ?_)
          have hne : ¬ a = b := by rw [← hR]; simp [h2]
          repeat' (first
            | (refine sw_seq ?_) | (refine sw_block ?_) | (refine sw_skip ?_) | (refine sw_ret ?_) | (refine sw_exit ?_)
            | (refine n_then ?_) | (refine r_then ?_) | (refine e_then ?_) | (refine n_block ?_) | (refine r_block ?_) | (refine e_block ?_) | (refine o_block rfl ?_)
            | (refine sw_run (by simp [-getElem?_pos, List.getElem?_cons_zero, List.getElem?_cons_succ, ]; exact Is.mk _) ?_)
            | (refine sw_true (by simp [-getElem?_pos, List.getElem?_cons_zero, List.getElem?_cons_succ, ]; exact Is.mk _) ?_) | (refine sw_false (by simp [-getElem?_pos, List.getElem?_cons_zero, List.getElem?_cons_succ, ]; exact Is.mk _) ?_)
            | (refine sw_yes (by simp; exact Is.mk _) (by assumption) ?_)
            | (refine sw_no (by simp; exact Is.mk _) (by assumption) ?_)
            | (refine sw_if (by simp; exact Is.mk _) (fun _ => ?_) (fun _ => ?_)))
          exact end_val (by simp; exact Is.mk _) (by simp) ⟨rfl, by simp [hne]⟩
      · obtain rfl : k = a.length := by omega
        have heq : a = b := by
          rw [← hR, List.drop_length, List.drop_eq_nil_of_le (by omega)]
        repeat' (first
          | (refine sw_seq ?_) | (refine sw_block ?_) | (refine sw_skip ?_) | (refine sw_ret ?_) | (refine sw_exit ?_)
          | (refine n_then ?_) | (refine r_then ?_) | (refine e_then ?_) | (refine n_block ?_) | (refine r_block ?_) | (refine e_block ?_) | (refine o_block rfl ?_)
          | (refine sw_run (by simp [-getElem?_pos, List.getElem?_cons_zero, List.getElem?_cons_succ, hlt]; exact Is.mk _) ?_)
          | (refine sw_true (by simp [-getElem?_pos, List.getElem?_cons_zero, List.getElem?_cons_succ, hlt]; exact Is.mk _) ?_) | (refine sw_false (by simp [-getElem?_pos, List.getElem?_cons_zero, List.getElem?_cons_succ, hlt]; exact Is.mk _) ?_)
          | (refine sw_yes (by simp; exact Is.mk _) (by assumption) ?_)
          | (refine sw_no (by simp; exact Is.mk _) (by assumption) ?_)
          | (refine sw_if (by simp; exact Is.mk _) (fun _ => ?_) (fun _ => ?_)))
        exact end_val (by simp; exact Is.mk _) (by simp) ⟨rfl, by simp [heq]⟩
  · repeat' (first
      | (refine sw_seq ?_) | (refine sw_block ?_) | (refine sw_skip ?_) | (refine sw_ret ?_) | (refine sw_exit ?_)
      | (refine n_then ?_) | (refine r_then ?_) | (refine e_then ?_) | (refine n_block ?_) | (refine r_block ?_) | (refine e_block ?_) | (refine o_block rfl ?_)
      | (refine sw_run (by simp [-getElem?_pos, List.getElem?_cons_zero, List.getElem?_cons_succ, h0]; exact Is.mk _) ?_)
      | (refine sw_true (by simp [-getElem?_pos, List.getElem?_cons_zero, List.getElem?_cons_succ, h0]; exact Is.mk _) ?_) | (refine sw_false (by simp [-getElem?_pos, List.getElem?_cons_zero, List.getElem?_cons_succ, h0]; exact Is.mk _) ?_)
      | (refine sw_yes (by simp; exact Is.mk _) (by assumption) ?_)
      | (refine sw_no (by simp; exact Is.mk _) (by assumption) ?_)
      | (refine sw_if (by simp; exact Is.mk _) (fun _ => ?_) (fun _ => ?_)))
    have hne : ¬ a = b := fun e => h0 (by rw [e])
    exact end_val (by simp; exact Is.mk _) (by simp) ⟨rfl, by simp [hne]⟩

theorem numbers_spec (a b : List Int) (ha : Small a.length) : Pure Tryd.prog 16 [.p (.sl 1 (ints a)), .p (.sl 1 (ints b))] (ab (decide (a = b))) := by
  refine pure_of Tryd.func16 rfl Tryd.ntmps16 (by simp) fun F n hF hn hn0 => ?_
  repeat' (first
    | (refine sw_seq ?_) | (refine sw_block ?_) | (refine sw_skip ?_) | (refine sw_ret ?_) | (refine sw_exit ?_)
    | (refine n_then ?_) | (refine r_then ?_) | (refine e_then ?_) | (refine n_block ?_) | (refine r_block ?_) | (refine e_block ?_) | (refine o_block rfl ?_)
    | (refine sw_run (by simp [-getElem?_pos, List.getElem?_cons_zero, List.getElem?_cons_succ, ]; exact Is.mk _) ?_)
    | (refine sw_true (by simp [-getElem?_pos, List.getElem?_cons_zero, List.getElem?_cons_succ, ]; exact Is.mk _) ?_) | (refine sw_false (by simp [-getElem?_pos, List.getElem?_cons_zero, List.getElem?_cons_succ, ]; exact Is.mk _) ?_)
    | (refine sw_yes (by simp; exact Is.mk _) (by assumption) ?_)
    | (refine sw_no (by simp; exact Is.mk _) (by assumption) ?_)
    | (refine sw_if (by simp; exact Is.mk _) (fun _ => ?_) (fun _ => ?_)))
  refine sw_ss ?_
  repeat (refine ss_op rfl (by simp [-getElem?_pos, List.getElem?_cons_zero, List.getElem?_cons_succ, ]; exact Is.mk _) ?_)
  refine ss_pure rfl rfl rfl (by simp [-getElem?_pos, List.getElem?_cons_zero, List.getElem?_cons_succ]; exact Is.mk _) (by kernel_rfl) (places_spec a b ha) ?_
  refine ss_all (by simp [-getElem?_pos, List.getElem?_cons_zero, List.getElem?_cons_succ, ]; exact Is.mk _) ?_
  repeat' (first
    | (refine sw_seq ?_) | (refine sw_block ?_) | (refine sw_skip ?_) | (refine sw_ret ?_) | (refine sw_exit ?_)
    | (refine n_then ?_) | (refine r_then ?_) | (refine e_then ?_) | (refine n_block ?_) | (refine r_block ?_) | (refine e_block ?_) | (refine o_block rfl ?_)
    | (refine sw_run (by simp [-getElem?_pos, List.getElem?_cons_zero, List.getElem?_cons_succ, ]; exact Is.mk _) ?_)
    | (refine sw_true (by simp [-getElem?_pos, List.getElem?_cons_zero, List.getElem?_cons_succ, ]; exact Is.mk _) ?_) | (refine sw_false (by simp [-getElem?_pos, List.getElem?_cons_zero, List.getElem?_cons_succ, ]; exact Is.mk _) ?_)
    | (refine sw_yes (by simp; exact Is.mk _) (by assumption) ?_)
    | (refine sw_no (by simp; exact Is.mk _) (by assumption) ?_)
    | (refine sw_if (by simp; exact Is.mk _) (fun _ => ?_) (fun _ => ?_)))
  exact end_val (by simp; exact Is.mk _) (by simp) ⟨rfl, by simp⟩

/-! ### Honest parties -/

/-- The numbers 1..m that f lets in. -/
def filtUp (f : Int → Bool) : Nat → List Int
  | 0 => []
  | m + 1 => if f (((m + 1 : Nat) : Int)) then filtUp f m ++ [((m + 1 : Nat) : Int)] else filtUp f m

theorem filt_len (f : Int → Bool) : ∀ m, (filtUp f m).length ≤ m
  | 0 => by simp [filtUp]
  | m + 1 => by
    have := filt_len f m
    simp only [filtUp]
    split
    · simp; omega
    · omega

theorem filt_mem {f : Int → Bool} {x : Int} : ∀ {m}, x ∈ filtUp f m ↔ 1 ≤ x ∧ x ≤ m ∧ f x = true
  | 0 => by simp [filtUp]; omega
  | m + 1 => by
    have ih := filt_mem (f := f) (x := x) (m := m)
    simp only [filtUp]
    split
    · rename_i h
      simp only [List.mem_append, List.mem_singleton, ih]
      constructor
      · rintro (⟨a, b, c⟩ | rfl)
        · exact ⟨a, by omega, c⟩
        · exact ⟨by omega, by omega, h⟩
      · rintro ⟨a, b, c⟩
        by_cases e : x = ((m + 1 : Nat) : Int)
        · exact .inr e
        · exact .inl ⟨a, by omega, c⟩
    · rename_i h
      rw [ih]
      constructor
      · rintro ⟨a, b, c⟩; exact ⟨a, by omega, c⟩
      · rintro ⟨a, b, c⟩
        by_cases e : x = ((m + 1 : Nat) : Int)
        · rw [e] at c; exact absurd c h
        · exact ⟨a, by omega, c⟩

theorem filt_congr {f g : Int → Bool} : ∀ {m : Nat}, (∀ x : Int, 1 ≤ x → x ≤ m → f x = g x) → filtUp f m = filtUp g m
  | 0, _ => rfl
  | m + 1, h => by
    simp only [filtUp, h ((m + 1 : Nat) : Int) (by omega) (Int.le_refl _)]
    rw [filt_congr (m := m) fun x a b => h x a (by omega)]

theorem filt_yes {f : Int → Bool} {m : Nat} {i : Int} {out : List Int} (hi : i = ((m + 1 : Nat) : Int)) (hf : f i = true) (ho : out = filtUp f m) : out ++ [i] = filtUp f (m + 1) := by
  subst hi ho
  simp only [filtUp, hf, if_true]
theorem filt_no {f : Int → Bool} {m : Nat} {i : Int} {out : List Int} (hi : i = ((m + 1 : Nat) : Int)) (hf : f i = false) (ho : out = filtUp f m) : out = filtUp f (m + 1) := by
  subst hi ho
  rw [filtUp, if_neg (by rw [hf]; simp)]

def honL (bad : List Int) (n : Int) : List Int := filtUp (fun i => !inL bad i) n.toNat

set_option maxHeartbeats 1000000 in
theorem rhonest_spec (p q t : Int) (bad : List Int) (hbad : Small bad.length) (h0 : 0 ≤ q) (h13 : q ≤ 13) : Pure Tryd.prog 58 [parA p q t, .p (.sl 1 (ints bad))] (.p (.sl 1 (ints (honL bad q)))) := by
  refine pure_of Tryd.func58 rfl Tryd.ntmps58 (by simp) fun F n hF hn hn0 => ?_
  repeat' (first
    | (refine sw_seq ?_) | (refine sw_block ?_) | (refine sw_skip ?_) | (refine sw_ret ?_) | (refine sw_exit ?_)
    | (refine n_then ?_) | (refine r_then ?_) | (refine e_then ?_) | (refine n_block ?_) | (refine r_block ?_) | (refine e_block ?_) | (refine o_block rfl ?_)
    | (refine sw_run (by simp [-getElem?_pos, List.getElem?_cons_zero, List.getElem?_cons_succ, ]; exact Is.mk _) ?_)
    | (refine sw_true (by simp [-getElem?_pos, List.getElem?_cons_zero, List.getElem?_cons_succ, ]; exact Is.mk _) ?_) | (refine sw_false (by simp [-getElem?_pos, List.getElem?_cons_zero, List.getElem?_cons_succ, ]; exact Is.mk _) ?_)
    | (refine sw_yes (by simp; exact Is.mk _) (by assumption) ?_)
    | (refine sw_no (by simp; exact Is.mk _) (by assumption) ?_)
    | (refine sw_if (by simp; exact Is.mk _) (fun _ => ?_) (fun _ => ?_)))
  refine sw_loopI (α := Nat × Int × List Int) (fun x => [(1, .p (.sl 1 (ints bad))), (2, .ptr n 0 0 0), (5, .own (n + 1) x.2.2.length 0 x.2.2.length), (6, ai x.2.1)])
    (fun x => [(n + 1, .row x.2.2.length 3 1 (rints x.2.2)), (n, .row 0 38 3 [[au p, ai q, ai t]])]) (fun _ => n + 2)
    (fun x => x.1 ≤ q.toNat ∧ x.2.1 = ((x.1 + 1 : Nat) : Int) ∧ x.2.2 = filtUp (fun i => !inL bad i) x.1) (fun x => q.toNat - x.1) (0, 1, []) ⟨Nat.zero_le _, rfl, rfl⟩ ?_ ?_ ?_
  · intro _
    refine weak_adopt_hp (id := n + 1) (sz := 1) (e := 3) (by simp [hn]) (by simp [ints, pcells]) (by simp [conv, convT, nilA]) ?_ (by simp)
    simp
  · intro x
    exact fresh_of hF (by omega) (by simp)
  · rintro ⟨m, i, out⟩ ⟨hm, hi, hout⟩
    simp only at hm hi hout ⊢
    have hlen : out.length ≤ m := by rw [hout]; exact filt_len _ _
    by_cases hlt : i ≤ q
    · have hw : IntKind.i64.wrap (i + 1) = i + 1 := i64_in (by omega)
      have hsm : Small (out.length + 1) := Small.mk (by omega)
      repeat' (first
        | (refine sw_seq ?_) | (refine sw_block ?_) | (refine sw_skip ?_) | (refine sw_ret ?_) | (refine sw_exit ?_)
        | (refine n_then ?_) | (refine r_then ?_) | (refine e_then ?_) | (refine n_block ?_) | (refine r_block ?_) | (refine e_block ?_) | (refine o_block rfl ?_)
        | (refine sw_run (by simp [-getElem?_pos, List.getElem?_cons_zero, List.getElem?_cons_succ, hlt]; exact Is.mk _) ?_)
        | (refine sw_true (by simp [-getElem?_pos, List.getElem?_cons_zero, List.getElem?_cons_succ, hlt]; exact Is.mk _) ?_) | (refine sw_false (by simp [-getElem?_pos, List.getElem?_cons_zero, List.getElem?_cons_succ, hlt]; exact Is.mk _) ?_)
        | (refine sw_yes (by simp; exact Is.mk _) (by assumption) ?_)
        | (refine sw_no (by simp; exact Is.mk _) (by assumption) ?_)
        | (refine sw_if (by simp; exact Is.mk _) (fun _ => ?_) (fun _ => ?_)))
      refine sw_ss ?_
      repeat (refine ss_op rfl (by simp [-getElem?_pos, List.getElem?_cons_zero, List.getElem?_cons_succ, ]; exact Is.mk _) ?_)
      refine ss_pure rfl rfl rfl (by simp [-getElem?_pos, List.getElem?_cons_zero, List.getElem?_cons_succ]; exact Is.mk _) (by kernel_rfl) (in_spec bad i hbad) ?_
      cases hb : inL bad i
      · refine ss_all (by simp [-getElem?_pos, List.getElem?_cons_zero, List.getElem?_cons_succ, ]; exact Is.mk _) ?_
        repeat' (first
          | (refine sw_seq ?_) | (refine sw_block ?_) | (refine sw_skip ?_) | (refine sw_ret ?_) | (refine sw_exit ?_)
          | (refine n_then ?_) | (refine r_then ?_) | (refine e_then ?_) | (refine n_block ?_) | (refine r_block ?_) | (refine e_block ?_) | (refine o_block rfl ?_)
          | (refine sw_run (by simp [-getElem?_pos, List.getElem?_cons_zero, List.getElem?_cons_succ, hw, hsm]; exact Is.mk _) ?_)
          | (refine sw_true (by simp [-getElem?_pos, List.getElem?_cons_zero, List.getElem?_cons_succ, hw, hsm]; exact Is.mk _) ?_) | (refine sw_false (by simp [-getElem?_pos, List.getElem?_cons_zero, List.getElem?_cons_succ, hw, hsm]; exact Is.mk _) ?_)
          | (refine sw_yes (by simp; exact Is.mk _) (by assumption) ?_)
          | (refine sw_no (by simp; exact Is.mk _) (by assumption) ?_)
          | (refine sw_if (by simp; exact Is.mk _) (fun _ => ?_) (fun _ => ?_)))
        exact ⟨(m + 1, i + 1, out ++ [i]), ⟨by simp only; omega, by simp only; omega, filt_yes hi (by simp [hb]) hout⟩, by simp only; omega, weak_cut_hp (by simp) (by simp [rints_app]) (by simp [hn, hn0])⟩
      · refine ss_all (by simp [-getElem?_pos, List.getElem?_cons_zero, List.getElem?_cons_succ, ]; exact Is.mk _) ?_
        repeat' (first
          | (refine sw_seq ?_) | (refine sw_block ?_) | (refine sw_skip ?_) | (refine sw_ret ?_) | (refine sw_exit ?_)
          | (refine n_then ?_) | (refine r_then ?_) | (refine e_then ?_) | (refine n_block ?_) | (refine r_block ?_) | (refine e_block ?_) | (refine o_block rfl ?_)
          | (refine sw_run (by simp [-getElem?_pos, List.getElem?_cons_zero, List.getElem?_cons_succ, hw]; exact Is.mk _) ?_)
          | (refine sw_true (by simp [-getElem?_pos, List.getElem?_cons_zero, List.getElem?_cons_succ, hw]; exact Is.mk _) ?_) | (refine sw_false (by simp [-getElem?_pos, List.getElem?_cons_zero, List.getElem?_cons_succ, hw]; exact Is.mk _) ?_)
          | (refine sw_yes (by simp; exact Is.mk _) (by assumption) ?_)
          | (refine sw_no (by simp; exact Is.mk _) (by assumption) ?_)
          | (refine sw_if (by simp; exact Is.mk _) (fun _ => ?_) (fun _ => ?_)))
        exact ⟨(m + 1, i + 1, out), ⟨by simp only; omega, by simp only; omega, filt_no hi (by simp [hb]) hout⟩, by simp only; omega, weak_cut_hp (by simp) (by simp) (by simp [hn, hn0])⟩
    · obtain rfl : m = q.toNat := by omega
      repeat' (first
        | (refine sw_seq ?_) | (refine sw_block ?_) | (refine sw_skip ?_) | (refine sw_ret ?_) | (refine sw_exit ?_)
        | (refine n_then ?_) | (refine r_then ?_) | (refine e_then ?_) | (refine n_block ?_) | (refine r_block ?_) | (refine e_block ?_) | (refine o_block rfl ?_)
        | (refine sw_run (by simp [-getElem?_pos, List.getElem?_cons_zero, List.getElem?_cons_succ, hlt]; exact Is.mk _) ?_)
        | (refine sw_true (by simp [-getElem?_pos, List.getElem?_cons_zero, List.getElem?_cons_succ, hlt]; exact Is.mk _) ?_) | (refine sw_false (by simp [-getElem?_pos, List.getElem?_cons_zero, List.getElem?_cons_succ, hlt]; exact Is.mk _) ?_)
        | (refine sw_yes (by simp; exact Is.mk _) (by assumption) ?_)
        | (refine sw_no (by simp; exact Is.mk _) (by assumption) ?_)
        | (refine sw_if (by simp; exact Is.mk _) (fun _ => ?_) (fun _ => ?_)))
      exact end_own (es := ints out) (by simp; exact Is.mk _) (by simp; exact Is.mk _) rfl (by simp) (hn 1) (by simp [hn0, hn]) ⟨rfl, by rw [hout]; rfl⟩

/-! ### members -/

section
variable {P : Program} {F : AHeap} {t : Slots} {L : Locs} {n : Nat}
/-- The end: a value without rows of the call's own is handed back. -/
theorem end_plain {rs : List ResultVar} {R : AV → AHeap → Prop} {x : AV} (hr : Is (ares P t (hp F L) rs) (some x)) (hc : ∀ D : Nat → Prop, conv D noA x x) (hs : shed F [] L) (H : R x F) : send P F rs R .ret t L n :=
  end_ret hr (fun _ => weak_plain (hc _) hs) H
end

abbrev rbits (l : List Bool) : List AV := l.map fun b => ab b
def marks (m : List Bool) : List Int → List Bool
  | [] => m
  | x :: r => marks (m.set x.toNat true) r
def memL (bad : List Int) : List Bool := marks (List.replicate 14 false) bad

theorem marks_len : ∀ {bad : List Int} {m : List Bool}, (marks m bad).length = m.length
  | [], _ => rfl
  | _ :: r, _ => by rw [marks, marks_len (bad := r)]; simp

theorem marks_get : ∀ {bad : List Int} {m : List Bool} {i : Nat}, (∀ x ∈ bad, 0 ≤ x) → i < m.length → (marks m bad)[i]? = some (m.getD i false || inL bad i)
  | [], m, i, _, h => by simp [marks, inL, List.getD_eq_getElem?_getD, List.getElem?_eq_getElem h]
  | x :: r, m, i, hx, h => by
    rw [marks, marks_get (bad := r) (fun y hy => hx y (by simp [hy])) (by simpa using h)]
    have h0 := hx x (by simp)
    simp only [inL, List.getD_eq_getElem?_getD]
    by_cases e : x = (i : Int)
    · subst e
      simp [List.getElem?_set, h]
    · have e' : ¬ x.toNat = i := by omega
      simp [List.getElem?_set, e, e']

theorem mem_get {bad : List Int} {i : Nat} (hx : ∀ x ∈ bad, 0 ≤ x) (h : i < 14) : (memL bad)[i]? = some (inL bad i) := by
  unfold memL
  have e : (List.replicate 14 false).getD i false = false := by
    rw [List.getD_eq_getElem?_getD, List.getElem?_replicate]; split <;> rfl
  rw [marks_get hx (by simpa using h), e, Bool.false_or]

theorem rbits_put {m : List Bool} {i : Nat} (h : i < m.length) : (rbits m).take i ++ ab true :: (rbits m).drop (i + 1) = rbits (m.set i true) := by
  rw [rbits, rbits, List.map_set, List.set_eq_take_append_cons_drop, if_pos (by simpa using h)]

theorem convL_bits {D : Nat → Prop} : ∀ m : List Bool, convL D noA (rbits m) (rbits m)
  | [] => by simp [convL]
  | b :: m => by simp only [rbits, List.map_cons, convL]; exact ⟨by simp [conv], convL_bits m⟩
theorem convL_put {D : Nat → Prop} (m : List Bool) (i : Nat) (b : Bool) : convL D noA ((List.map (fun b => ab b) m).set i (ab b)) ((List.map (fun b => ab b) m).set i (ab b)) := by
  have := convL_bits (D := D) (m.set i b)
  rwa [rbits, List.map_set] at this
theorem take_bits {m : List Bool} (h : m.length = 14) : (rbits m).take 14 = rbits m := List.take_of_length_le (by simp [h])
theorem drop_bits {m : List Bool} (h : m.length = 14) : (rbits m).drop 14 = [] := List.drop_eq_nil_of_le (by simp [h])

set_option maxHeartbeats 1000000 in
theorem members_spec (bad : List Int) (hbad : Small bad.length) (hin : ∀ x ∈ bad, 0 ≤ x ∧ x < 14) : Pure Tryd.prog 66 [.p (.sl 1 (ints bad))] (.agg (rbits (memL bad))) := by
  refine pure_of Tryd.func66 rfl Tryd.ntmps66 (by simp) fun F n hF hn hn0 => ?_
  repeat' (first
    | (refine sw_seq ?_) | (refine sw_block ?_) | (refine sw_skip ?_) | (refine sw_ret ?_) | (refine sw_exit ?_)
    | (refine n_then ?_) | (refine r_then ?_) | (refine e_then ?_) | (refine n_block ?_) | (refine r_block ?_) | (refine e_block ?_) | (refine o_block rfl ?_)
    | (refine sw_run (by simp [-getElem?_pos, List.getElem?_cons_zero, List.getElem?_cons_succ, ]; exact Is.mk _) ?_)
    | (refine sw_true (by simp [-getElem?_pos, List.getElem?_cons_zero, List.getElem?_cons_succ, ]; exact Is.mk _) ?_) | (refine sw_false (by simp [-getElem?_pos, List.getElem?_cons_zero, List.getElem?_cons_succ, ]; exact Is.mk _) ?_)
    | (refine sw_yes (by simp; exact Is.mk _) (by assumption) ?_)
    | (refine sw_no (by simp; exact Is.mk _) (by assumption) ?_)
    | (refine sw_if (by simp; exact Is.mk _) (fun _ => ?_) (fun _ => ?_)))
  refine sw_loopI (α := Nat × List Bool) (fun x => [(2, .ptr n 0 0 0), (5, .p (.sl 1 (ints bad))), (6, ai bad.length), (7, ai x.1)]) (fun x => [(n, .row 0 69 14 [rbits x.2])]) (fun _ => n + 1)
    (fun x => x.1 ≤ bad.length ∧ x.2.length = 14 ∧ marks x.2 (bad.drop x.1) = memL bad) (fun x => bad.length - x.1) (0, List.replicate 14 false) ⟨Nat.zero_le _, by simp, rfl⟩ ?_ ?_ ?_
  · intro _
    exact weak_cut_hp (by simp) (by simp) (by simp)
  · intro x
    exact fresh_of hF (by omega) (by simp)
  · rintro ⟨k, m⟩ ⟨hk, hlen, hR⟩
    simp only at hk hlen hR ⊢
    by_cases hlt : k < bad.length
    · obtain ⟨x, hx⟩ := get_lt hlt
      have hw := wrap_succ hlt hbad
      obtain ⟨h0, h14⟩ := hin x (List.mem_of_getElem? hx)
      rw [drop_cons hx] at hR
      simp only [marks] at hR
      have h14' : x.toNat < 14 := by omega
      have h13 : x ≤ 13 := by omega
      have hput := rbits_put (m := m) (i := x.toNat) (by omega)
      repeat' (first
        | (refine sw_seq ?_) | (refine sw_block ?_) | (refine sw_skip ?_) | (refine sw_ret ?_) | (refine sw_exit ?_)
        | (refine n_then ?_) | (refine r_then ?_) | (refine e_then ?_) | (refine n_block ?_) | (refine r_block ?_) | (refine e_block ?_) | (refine o_block rfl ?_)
        | (refine sw_run (by simp [-getElem?_pos, List.getElem?_cons_zero, List.getElem?_cons_succ, hlt, hx, h0, h14, h14', h13, hlen, hput, hw]; exact Is.mk _) ?_)
        | (refine sw_true (by simp [-getElem?_pos, List.getElem?_cons_zero, List.getElem?_cons_succ, hlt, hx, h0, h14, h14', h13, hlen, hput, hw]; exact Is.mk _) ?_) | (refine sw_false (by simp [-getElem?_pos, List.getElem?_cons_zero, List.getElem?_cons_succ, hlt, hx, h0, h14, h14', h13, hlen, hput, hw]; exact Is.mk _) ?_)
        | (refine sw_yes (by simp; exact Is.mk _) (by assumption) ?_)
        | (refine sw_no (by simp; exact Is.mk _) (by assumption) ?_)
        | (refine sw_if (by simp; exact Is.mk _) (fun _ => ?_) (fun _ => ?_)))
      exact ⟨(k + 1, m.set x.toNat true), ⟨by simp only; omega, by simp [hlen], hR⟩, by simp only; omega, weak_cut_hp (by simp) (by simp [List.map_set, convL_put]) (by simp [hn, hn0])⟩
    · obtain rfl : k = bad.length := by omega
      simp only [List.drop_length, marks] at hR
      have ht := take_bits hlen
      have hd := drop_bits hlen
      repeat' (first
        | (refine sw_seq ?_) | (refine sw_block ?_) | (refine sw_skip ?_) | (refine sw_ret ?_) | (refine sw_exit ?_)
        | (refine n_then ?_) | (refine r_then ?_) | (refine e_then ?_) | (refine n_block ?_) | (refine r_block ?_) | (refine e_block ?_) | (refine o_block rfl ?_)
        | (refine sw_run (by simp [-getElem?_pos, List.getElem?_cons_zero, List.getElem?_cons_succ, hlt, hlen, ht, hd]; exact Is.mk _) ?_)
        | (refine sw_true (by simp [-getElem?_pos, List.getElem?_cons_zero, List.getElem?_cons_succ, hlt, hlen, ht, hd]; exact Is.mk _) ?_) | (refine sw_false (by simp [-getElem?_pos, List.getElem?_cons_zero, List.getElem?_cons_succ, hlt, hlen, ht, hd]; exact Is.mk _) ?_)
        | (refine sw_yes (by simp; exact Is.mk _) (by assumption) ?_)
        | (refine sw_no (by simp; exact Is.mk _) (by assumption) ?_)
        | (refine sw_if (by simp; exact Is.mk _) (fun _ => ?_) (fun _ => ?_)))
      exact end_plain (x := .agg (rbits m)) (by simp [hlen, ht]; exact Is.mk _) (fun D => by simp only [conv]; exact .inr ⟨_, rfl, convL_bits m⟩) (by simp [hn0, hn]) ⟨rfl, by rw [hR]⟩

end Go.AM
