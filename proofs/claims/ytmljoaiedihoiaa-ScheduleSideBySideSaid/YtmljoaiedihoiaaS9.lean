/- Same, plain, Rounds, awake. -/
import Derived.Test.YtmljoaiedihoiaaS8
import Derived.Test.YtmljoaiedihoiaaAm26
namespace Go.AM
set_option linter.unusedVariables false
set_option linter.unusedSimpArgs false
open Go Go.RowKit Go.Proofs
@[simp] theorem upp1_2 (n : Nat) : n + 1 + 2 = n + 3 := rfl
@[simp] theorem upp1_3 (n : Nat) : n + 1 + 3 = n + 4 := rfl
@[simp] theorem upp1_4 (n : Nat) : n + 1 + 4 = n + 5 := rfl
@[simp] theorem upp1_5 (n : Nat) : n + 1 + 5 = n + 6 := rfl
@[simp] theorem upp1_6 (n : Nat) : n + 1 + 6 = n + 7 := rfl
@[simp] theorem upp1_7 (n : Nat) : n + 1 + 7 = n + 8 := rfl
@[simp] theorem upp1_8 (n : Nat) : n + 1 + 8 = n + 9 := rfl
@[simp] theorem upp1_9 (n : Nat) : n + 1 + 9 = n + 10 := rfl
@[simp] theorem upp2_2 (n : Nat) : n + 2 + 2 = n + 4 := rfl
@[simp] theorem upp2_3 (n : Nat) : n + 2 + 3 = n + 5 := rfl
@[simp] theorem upp2_4 (n : Nat) : n + 2 + 4 = n + 6 := rfl
@[simp] theorem upp2_5 (n : Nat) : n + 2 + 5 = n + 7 := rfl
@[simp] theorem upp2_6 (n : Nat) : n + 2 + 6 = n + 8 := rfl
@[simp] theorem upp2_7 (n : Nat) : n + 2 + 7 = n + 9 := rfl
@[simp] theorem upp2_8 (n : Nat) : n + 2 + 8 = n + 10 := rfl
@[simp] theorem upp2_9 (n : Nat) : n + 2 + 9 = n + 11 := rfl
@[simp] theorem upp3_2 (n : Nat) : n + 3 + 2 = n + 5 := rfl
@[simp] theorem upp3_3 (n : Nat) : n + 3 + 3 = n + 6 := rfl
@[simp] theorem upp3_4 (n : Nat) : n + 3 + 4 = n + 7 := rfl
@[simp] theorem upp3_5 (n : Nat) : n + 3 + 5 = n + 8 := rfl
@[simp] theorem upp3_6 (n : Nat) : n + 3 + 6 = n + 9 := rfl
@[simp] theorem upp3_7 (n : Nat) : n + 3 + 7 = n + 10 := rfl
@[simp] theorem upp3_8 (n : Nat) : n + 3 + 8 = n + 11 := rfl
@[simp] theorem upp3_9 (n : Nat) : n + 3 + 9 = n + 12 := rfl
@[simp] theorem upp4_2 (n : Nat) : n + 4 + 2 = n + 6 := rfl
@[simp] theorem upp4_3 (n : Nat) : n + 4 + 3 = n + 7 := rfl
@[simp] theorem upp4_4 (n : Nat) : n + 4 + 4 = n + 8 := rfl
@[simp] theorem upp4_5 (n : Nat) : n + 4 + 5 = n + 9 := rfl
@[simp] theorem upp4_6 (n : Nat) : n + 4 + 6 = n + 10 := rfl
@[simp] theorem upp4_7 (n : Nat) : n + 4 + 7 = n + 11 := rfl
@[simp] theorem upp4_8 (n : Nat) : n + 4 + 8 = n + 12 := rfl
@[simp] theorem upp4_9 (n : Nat) : n + 4 + 9 = n + 13 := rfl
@[simp] theorem upp5_2 (n : Nat) : n + 5 + 2 = n + 7 := rfl
@[simp] theorem upp5_3 (n : Nat) : n + 5 + 3 = n + 8 := rfl
@[simp] theorem upp5_4 (n : Nat) : n + 5 + 4 = n + 9 := rfl
@[simp] theorem upp5_5 (n : Nat) : n + 5 + 5 = n + 10 := rfl
@[simp] theorem upp5_6 (n : Nat) : n + 5 + 6 = n + 11 := rfl
@[simp] theorem upp5_7 (n : Nat) : n + 5 + 7 = n + 12 := rfl
@[simp] theorem upp5_8 (n : Nat) : n + 5 + 8 = n + 13 := rfl
@[simp] theorem upp5_9 (n : Nat) : n + 5 + 9 = n + 14 := rfl
@[simp] theorem upp6_2 (n : Nat) : n + 6 + 2 = n + 8 := rfl
@[simp] theorem upp6_3 (n : Nat) : n + 6 + 3 = n + 9 := rfl
@[simp] theorem upp6_4 (n : Nat) : n + 6 + 4 = n + 10 := rfl
@[simp] theorem upp6_5 (n : Nat) : n + 6 + 5 = n + 11 := rfl
@[simp] theorem upp6_6 (n : Nat) : n + 6 + 6 = n + 12 := rfl
@[simp] theorem upp6_7 (n : Nat) : n + 6 + 7 = n + 13 := rfl
@[simp] theorem upp6_8 (n : Nat) : n + 6 + 8 = n + 14 := rfl
@[simp] theorem upp6_9 (n : Nat) : n + 6 + 9 = n + 15 := rfl
@[simp] theorem upp7_2 (n : Nat) : n + 7 + 2 = n + 9 := rfl
@[simp] theorem upp7_3 (n : Nat) : n + 7 + 3 = n + 10 := rfl
@[simp] theorem upp7_4 (n : Nat) : n + 7 + 4 = n + 11 := rfl
@[simp] theorem upp7_5 (n : Nat) : n + 7 + 5 = n + 12 := rfl
@[simp] theorem upp7_6 (n : Nat) : n + 7 + 6 = n + 13 := rfl
@[simp] theorem upp7_7 (n : Nat) : n + 7 + 7 = n + 14 := rfl
@[simp] theorem upp7_8 (n : Nat) : n + 7 + 8 = n + 15 := rfl
@[simp] theorem upp7_9 (n : Nat) : n + 7 + 9 = n + 16 := rfl
@[simp] theorem upp8_2 (n : Nat) : n + 8 + 2 = n + 10 := rfl
@[simp] theorem upp8_3 (n : Nat) : n + 8 + 3 = n + 11 := rfl
@[simp] theorem upp8_4 (n : Nat) : n + 8 + 4 = n + 12 := rfl
@[simp] theorem upp8_5 (n : Nat) : n + 8 + 5 = n + 13 := rfl
@[simp] theorem upp8_6 (n : Nat) : n + 8 + 6 = n + 14 := rfl
@[simp] theorem upp8_7 (n : Nat) : n + 8 + 7 = n + 15 := rfl
@[simp] theorem upp8_8 (n : Nat) : n + 8 + 8 = n + 16 := rfl
@[simp] theorem upp8_9 (n : Nat) : n + 8 + 9 = n + 17 := rfl
@[simp] theorem upp9_2 (n : Nat) : n + 9 + 2 = n + 11 := rfl
@[simp] theorem upp9_3 (n : Nat) : n + 9 + 3 = n + 12 := rfl
@[simp] theorem upp9_4 (n : Nat) : n + 9 + 4 = n + 13 := rfl
@[simp] theorem upp9_5 (n : Nat) : n + 9 + 5 = n + 14 := rfl
@[simp] theorem upp9_6 (n : Nat) : n + 9 + 6 = n + 15 := rfl
@[simp] theorem upp9_7 (n : Nat) : n + 9 + 7 = n + 16 := rfl
@[simp] theorem upp9_8 (n : Nat) : n + 9 + 8 = n + 17 := rfl
@[simp] theorem upp9_9 (n : Nat) : n + 9 + 9 = n + 18 := rfl
@[simp] theorem upp10_2 (n : Nat) : n + 10 + 2 = n + 12 := rfl
@[simp] theorem upp10_3 (n : Nat) : n + 10 + 3 = n + 13 := rfl
@[simp] theorem upp10_4 (n : Nat) : n + 10 + 4 = n + 14 := rfl
@[simp] theorem upp10_5 (n : Nat) : n + 10 + 5 = n + 15 := rfl
@[simp] theorem upp10_6 (n : Nat) : n + 10 + 6 = n + 16 := rfl
@[simp] theorem upp10_7 (n : Nat) : n + 10 + 7 = n + 17 := rfl
@[simp] theorem upp10_8 (n : Nat) : n + 10 + 8 = n + 18 := rfl
@[simp] theorem upp10_9 (n : Nat) : n + 10 + 9 = n + 19 := rfl
@[simp] theorem upp11_2 (n : Nat) : n + 11 + 2 = n + 13 := rfl
@[simp] theorem upp11_3 (n : Nat) : n + 11 + 3 = n + 14 := rfl
@[simp] theorem upp11_4 (n : Nat) : n + 11 + 4 = n + 15 := rfl
@[simp] theorem upp11_5 (n : Nat) : n + 11 + 5 = n + 16 := rfl
@[simp] theorem upp11_6 (n : Nat) : n + 11 + 6 = n + 17 := rfl
@[simp] theorem upp11_7 (n : Nat) : n + 11 + 7 = n + 18 := rfl
@[simp] theorem upp11_8 (n : Nat) : n + 11 + 8 = n + 19 := rfl
@[simp] theorem upp11_9 (n : Nat) : n + 11 + 9 = n + 20 := rfl

theorem take_eq_succ {α : Type} {a b : List α} {k : Nat} {x : α} (h : a.take k = b.take k) (ha : a[k]? = some x) (hb : b[k]? = some x) : a.take (k + 1) = b.take (k + 1) := by
  rw [take_snoc ha, take_snoc hb, h]
theorem take_eq_get {α : Type} {a b : List α} {k : Nat} {x y : α} (hxy : x ≠ y) (ha : a[k]? = some x) (hb : b[k]? = some y) : a ≠ b := by
  intro e; subst e; rw [ha] at hb; exact hxy (Option.some.inj hb)

set_option maxHeartbeats 2000000 in
theorem same_spec (a b : List (List Int)) (ha : Small a.length) (hal : ∀ x ∈ a, Small x.length) : Pure Try.prog 20 [schedA a, schedA b] (ab (decide (a = b))) := by
  refine pure_of Try.func20 rfl Try.ntmps20 (by simp) fun F n hF hn hn0 => ?_
  unfold schedA
  by_cases h1 : a.length = b.length
  · repeat' (first
      | (refine sw_seq ?_) | (refine sw_block ?_) | (refine sw_skip ?_) | (refine sw_ret ?_) | (refine sw_exit ?_)
      | (refine n_then ?_) | (refine r_then ?_) | (refine e_then ?_) | (refine n_block ?_) | (refine r_block ?_) | (refine e_block ?_) | (refine o_block rfl ?_)
      | (refine sw_run (by simp [h1]; exact Is.mk _) ?_)
      | (refine sw_true (by simp [h1]; exact Is.mk _) ?_) | (refine sw_false (by simp [h1]; exact Is.mk _) ?_)
      | (refine sw_yes (by simp; exact Is.mk _) (by assumption) ?_)
      | (refine sw_no (by simp; exact Is.mk _) (by assumption) ?_)
      | (refine sw_if (by simp; exact Is.mk _) (fun _ => ?_) (fun _ => ?_)))
    refine sw_loopI (α := Nat) (fun d => [(2, .ptr n 0 0 0), (3, .ptr (n + 1) 0 0 0), (5, ai d)])
      (fun _ => [(n + 1, schedB b), (n, schedB a)]) (fun _ => n + 2)
      (fun d => d ≤ a.length ∧ a.take d = b.take d) (fun d => a.length - d) 0 (by simp) ?_ ?_ ?_
    · intro _
      exact weak_cut_hp (by simp) (by simp) (by simp)
    · intro x
      exact fresh_of hF (by omega) (by simp)
    · rintro d ⟨hd, hR⟩
      by_cases hlt : d < a.length
      · obtain ⟨x, hx⟩ := get_lt hlt
        obtain ⟨y, hy⟩ := get_lt (l := b) (k := d) (by omega)
        have hxl : Small x.length := hal x (List.mem_of_getElem? hx)
        have hw := wrap_succ hlt ha
        have hltb : d < b.length := by omega
        by_cases h2 : x.length = y.length
        · repeat' (first
            | (refine sw_seq ?_) | (refine sw_block ?_) | (refine sw_skip ?_) | (refine sw_ret ?_) | (refine sw_exit ?_)
            | (refine n_then ?_) | (refine r_then ?_) | (refine e_then ?_) | (refine n_block ?_) | (refine r_block ?_) | (refine e_block ?_) | (refine o_block rfl ?_)
            | (refine sw_run (by simp [hlt, hltb, h1]; exact Is.mk _) ?_)
            | (refine sw_true (by simp [hlt, hltb, h1]; exact Is.mk _) ?_) | (refine sw_false (by simp [hlt, hltb, h1]; exact Is.mk _) ?_)
            | (refine sw_yes (by simp; exact Is.mk _) (by assumption) ?_)
            | (refine sw_no (by simp; exact Is.mk _) (by assumption) ?_)
            | (refine sw_if (by simp; exact Is.mk _) (fun _ => ?_) (fun _ => ?_)))
          refine sw_draw mixed (by kernel_rfl) rfl (ds_all (by simp [hx, hy, h2]; exact Is.mk _) (disAll_quiet (by simp)) ?_)
          repeat' (first
            | (refine sw_seq ?_) | (refine sw_block ?_) | (refine sw_skip ?_) | (refine sw_ret ?_) | (refine sw_exit ?_)
            | (refine n_then ?_) | (refine r_then ?_) | (refine e_then ?_) | (refine n_block ?_) | (refine r_block ?_) | (refine e_block ?_) | (refine o_block rfl ?_)
            | (refine sw_run (by simp []; exact Is.mk _) ?_)
            | (refine sw_true (by simp []; exact Is.mk _) ?_) | (refine sw_false (by simp []; exact Is.mk _) ?_)
            | (refine sw_yes (by simp; exact Is.mk _) (by assumption) ?_)
            | (refine sw_no (by simp; exact Is.mk _) (by assumption) ?_)
            | (refine sw_if (by simp; exact Is.mk _) (fun _ => ?_) (fun _ => ?_)))
          refine sw_loopI (α := Nat) (fun j => [(2, .ptr n 0 0 0), (3, .ptr (n + 1) 0 0 0), (5, ai d), (6, ai j)])
            (fun _ => [(n + 1, schedB b), (n, schedB a)]) (fun _ => n + 2)
            (fun j => j ≤ x.length ∧ x.take j = y.take j) (fun j => x.length - j) 0 (by simp) ?_ ?_ ?_
          · intro _
            exact weak_cut_hp (by simp) (by simp) (by simp)
          · intro x
            exact fresh_of hF (by omega) (by simp)
          · rintro j ⟨hj, hR2⟩
            by_cases hjl : j < x.length
            · obtain ⟨p, hp'⟩ := get_lt hjl
              obtain ⟨q, hq⟩ := get_lt (l := y) (k := j) (by omega)
              have hwj := wrap_succ hjl hxl
              by_cases h3 : p = q
              · repeat' (first
                  | (refine sw_seq ?_) | (refine sw_block ?_) | (refine sw_skip ?_) | (refine sw_ret ?_) | (refine sw_exit ?_)
                  | (refine n_then ?_) | (refine r_then ?_) | (refine e_then ?_) | (refine n_block ?_) | (refine r_block ?_) | (refine e_block ?_) | (refine o_block rfl ?_)
                  | (refine sw_run (by simp [hx, hjl]; exact Is.mk _) ?_)
                  | (refine sw_true (by simp [hx, hjl]; exact Is.mk _) ?_) | (refine sw_false (by simp [hx, hjl]; exact Is.mk _) ?_)
                  | (refine sw_yes (by simp; exact Is.mk _) (by assumption) ?_)
                  | (refine sw_no (by simp; exact Is.mk _) (by assumption) ?_)
                  | (refine sw_if (by simp; exact Is.mk _) (fun _ => ?_) (fun _ => ?_)))
                refine sw_draw mixed (by kernel_rfl) rfl (ds_all (by simp [hx, hy, hp', hq, h3]; exact Is.mk _) (disAll_quiet (by simp)) ?_)
                repeat' (first
                  | (refine sw_seq ?_) | (refine sw_block ?_) | (refine sw_skip ?_) | (refine sw_ret ?_) | (refine sw_exit ?_)
                  | (refine n_then ?_) | (refine r_then ?_) | (refine e_then ?_) | (refine n_block ?_) | (refine r_block ?_) | (refine e_block ?_) | (refine o_block rfl ?_)
                  | (refine sw_run (by simp [hwj]; exact Is.mk _) ?_)
                  | (refine sw_true (by simp [hwj]; exact Is.mk _) ?_) | (refine sw_false (by simp [hwj]; exact Is.mk _) ?_)
                  | (refine sw_yes (by simp; exact Is.mk _) (by assumption) ?_)
                  | (refine sw_no (by simp; exact Is.mk _) (by assumption) ?_)
                  | (refine sw_if (by simp; exact Is.mk _) (fun _ => ?_) (fun _ => ?_)))
                exact ⟨j + 1, ⟨by omega, take_eq_succ hR2 hp' (by rw [hq, h3])⟩, by omega, weak_cut_hp (by simp) (by simp) (by simp)⟩
              · repeat' (first
                  | (refine sw_seq ?_) | (refine sw_block ?_) | (refine sw_skip ?_) | (refine sw_ret ?_) | (refine sw_exit ?_)
                  | (refine n_then ?_) | (refine r_then ?_) | (refine e_then ?_) | (refine n_block ?_) | (refine r_block ?_) | (refine e_block ?_) | (refine o_block rfl ?_)
                  | (refine sw_run (by simp [hx, hjl]; exact Is.mk _) ?_)
                  | (refine sw_true (by simp [hx, hjl]; exact Is.mk _) ?_) | (refine sw_false (by simp [hx, hjl]; exact Is.mk _) ?_)
                  | (refine sw_yes (by simp; exact Is.mk _) (by assumption) ?_)
                  | (refine sw_no (by simp; exact Is.mk _) (by assumption) ?_)
                  | (refine sw_if (by simp; exact Is.mk _) (fun _ => ?_) (fun _ => ?_)))
                refine sw_draw mixed (by kernel_rfl) rfl (ds_all (by simp [hx, hy, hp', hq, h3]; exact Is.mk _) (disAll_quiet (by simp)) ?_)
                repeat' (first
                  | (refine sw_seq ?_) | (refine sw_block ?_) | (refine sw_skip ?_) | (refine sw_ret ?_) | (refine sw_exit ?_)
                  | (refine n_then ?_) | (refine r_then ?_) | (refine e_then ?_) | (refine n_block ?_) | (refine r_block ?_) | (refine e_block ?_) | (refine o_block rfl ?_)
                  | (refine sw_run (by simp []; exact Is.mk _) ?_)
                  | (refine sw_true (by simp []; exact Is.mk _) ?_) | (refine sw_false (by simp []; exact Is.mk _) ?_)
                  | (refine sw_yes (by simp; exact Is.mk _) (by assumption) ?_)
                  | (refine sw_no (by simp; exact Is.mk _) (by assumption) ?_)
                  | (refine sw_if (by simp; exact Is.mk _) (fun _ => ?_) (fun _ => ?_)))
                exact end_val (by simp; exact Is.mk _) (by simp [hn0, hn]) ⟨rfl, by simp [take_eq_get (take_eq_get h3 hp' hq) hx hy]⟩
            · have e : x = y := by
                have hje : j = x.length := by omega
                subst hje
                rw [List.take_length, h2, List.take_length] at hR2
                exact hR2
              repeat' (first
                | (refine sw_seq ?_) | (refine sw_block ?_) | (refine sw_skip ?_) | (refine sw_ret ?_) | (refine sw_exit ?_)
                | (refine n_then ?_) | (refine r_then ?_) | (refine e_then ?_) | (refine n_block ?_) | (refine r_block ?_) | (refine e_block ?_) | (refine o_block rfl ?_)
                | (refine sw_run (by simp [hx, hjl, hw]; exact Is.mk _) ?_)
                | (refine sw_true (by simp [hx, hjl, hw]; exact Is.mk _) ?_) | (refine sw_false (by simp [hx, hjl, hw]; exact Is.mk _) ?_)
                | (refine sw_yes (by simp; exact Is.mk _) (by assumption) ?_)
                | (refine sw_no (by simp; exact Is.mk _) (by assumption) ?_)
                | (refine sw_if (by simp; exact Is.mk _) (fun _ => ?_) (fun _ => ?_)))
              exact ⟨d + 1, ⟨by omega, take_eq_succ hR hx (by rw [hy, e])⟩, by omega, weak_cut_hp (by simp) (by simp) (by simp)⟩
        · have h2' : ¬ (x.length : Int) = y.length := by omega
          repeat' (first
            | (refine sw_seq ?_) | (refine sw_block ?_) | (refine sw_skip ?_) | (refine sw_ret ?_) | (refine sw_exit ?_)
            | (refine n_then ?_) | (refine r_then ?_) | (refine e_then ?_) | (refine n_block ?_) | (refine r_block ?_) | (refine e_block ?_) | (refine o_block rfl ?_)
            | (refine sw_run (by simp [hlt, hltb, h1]; exact Is.mk _) ?_)
            | (refine sw_true (by simp [hlt, hltb, h1]; exact Is.mk _) ?_) | (refine sw_false (by simp [hlt, hltb, h1]; exact Is.mk _) ?_)
            | (refine sw_yes (by simp; exact Is.mk _) (by assumption) ?_)
            | (refine sw_no (by simp; exact Is.mk _) (by assumption) ?_)
            | (refine sw_if (by simp; exact Is.mk _) (fun _ => ?_) (fun _ => ?_)))
          refine sw_draw mixed (by kernel_rfl) rfl (ds_all (by simp [hx, hy, h2']; exact Is.mk _) (disAll_quiet (by simp)) ?_)
          repeat' (first
            | (refine sw_seq ?_) | (refine sw_block ?_) | (refine sw_skip ?_) | (refine sw_ret ?_) | (refine sw_exit ?_)
            | (refine n_then ?_) | (refine r_then ?_) | (refine e_then ?_) | (refine n_block ?_) | (refine r_block ?_) | (refine e_block ?_) | (refine o_block rfl ?_)
            | (refine sw_run (by simp []; exact Is.mk _) ?_)
            | (refine sw_true (by simp []; exact Is.mk _) ?_) | (refine sw_false (by simp []; exact Is.mk _) ?_)
            | (refine sw_yes (by simp; exact Is.mk _) (by assumption) ?_)
            | (refine sw_no (by simp; exact Is.mk _) (by assumption) ?_)
            | (refine sw_if (by simp; exact Is.mk _) (fun _ => ?_) (fun _ => ?_)))
          exact end_val (by simp; exact Is.mk _) (by simp [hn0, hn]) ⟨rfl, by simp [take_eq_get (show x ≠ y from fun e => h2 (by rw [e])) hx hy]⟩
      · have e : a = b := by
          have hde : d = a.length := by omega
          subst hde
          rw [List.take_length, h1, List.take_length] at hR
          exact hR
        repeat' (first
          | (refine sw_seq ?_) | (refine sw_block ?_) | (refine sw_skip ?_) | (refine sw_ret ?_) | (refine sw_exit ?_)
          | (refine n_then ?_) | (refine r_then ?_) | (refine e_then ?_) | (refine n_block ?_) | (refine r_block ?_) | (refine e_block ?_) | (refine o_block rfl ?_)
          | (refine sw_run (by simp [hlt]; exact Is.mk _) ?_)
          | (refine sw_true (by simp [hlt]; exact Is.mk _) ?_) | (refine sw_false (by simp [hlt]; exact Is.mk _) ?_)
          | (refine sw_yes (by simp; exact Is.mk _) (by assumption) ?_)
          | (refine sw_no (by simp; exact Is.mk _) (by assumption) ?_)
          | (refine sw_if (by simp; exact Is.mk _) (fun _ => ?_) (fun _ => ?_)))
        exact end_val (by simp; exact Is.mk _) (by simp [hn0, hn]) ⟨rfl, by simp [e]⟩
  · have h1' : ¬ (a.length : Int) = b.length := by omega
    repeat' (first
      | (refine sw_seq ?_) | (refine sw_block ?_) | (refine sw_skip ?_) | (refine sw_ret ?_) | (refine sw_exit ?_)
      | (refine n_then ?_) | (refine r_then ?_) | (refine e_then ?_) | (refine n_block ?_) | (refine r_block ?_) | (refine e_block ?_) | (refine o_block rfl ?_)
      | (refine sw_run (by simp [h1']; exact Is.mk _) ?_)
      | (refine sw_true (by simp [h1']; exact Is.mk _) ?_) | (refine sw_false (by simp [h1']; exact Is.mk _) ?_)
      | (refine sw_yes (by simp; exact Is.mk _) (by assumption) ?_)
      | (refine sw_no (by simp; exact Is.mk _) (by assumption) ?_)
      | (refine sw_if (by simp; exact Is.mk _) (fun _ => ?_) (fun _ => ?_)))
    exact end_val (by simp; exact Is.mk _) (by simp [hn0, hn]) ⟨rfl, by simp; exact fun e => h1 (by rw [e])⟩

/-! ### plain -/

def plainG : List Gate := [⟨1, 1, 0, 0, 0⟩, ⟨1, 1, 0, 0, 0⟩, ⟨1, 1, 0, 0, 0⟩, ⟨1, 2, 0, 0, 1⟩, ⟨6, 0, 0, 1, 0⟩, ⟨6, 0, 2, 3, 0⟩, ⟨6, 0, 4, 5, 0⟩, ⟨6, 0, 4, 2, 0⟩]

@[simp] theorem tzCirc : tZero Try.prog 26 = some [.int .u64 0, .slice none 0 0, .slice none 0 0] := by kernel_rfl
@[simp] theorem tsCirc : tStruct Try.prog 26 = some [(0, 1), (1, 1), (2, 1)] := by kernel_rfl
@[simp] theorem tsSched : tStruct Try.prog 29 = some [(0, 1)] := by kernel_rfl

theorem plain_spec : Pure Try.prog 21 [] (circA 31 plainG [6, 7]) := by
  refine pure_of Try.func21 rfl Try.ntmps21 (by simp) fun F n hF hn hn0 => ?_
  repeat' (first
    | (refine sw_seq ?_) | (refine sw_block ?_) | (refine sw_skip ?_) | (refine sw_ret ?_) | (refine sw_exit ?_)
    | (refine n_then ?_) | (refine r_then ?_) | (refine e_then ?_) | (refine n_block ?_) | (refine r_block ?_) | (refine e_block ?_) | (refine o_block rfl ?_)
    | (refine sw_run (by simp []; exact Is.mk _) ?_)
    | (refine sw_true (by simp []; exact Is.mk _) ?_) | (refine sw_false (by simp []; exact Is.mk _) ?_)
    | (refine sw_yes (by simp; exact Is.mk _) (by assumption) ?_)
    | (refine sw_no (by simp; exact Is.mk _) (by assumption) ?_)
    | (refine sw_if (by simp; exact Is.mk _) (fun _ => ?_) (fun _ => ?_)))
  refine end_ret (r := .agg [au 31, .own (n + 2) 0 0 8, .own (n + 3) 0 0 2]) (by simp; exact Is.mk _) (fun _ => ?_) ⟨rfl, rfl⟩
  refine WeakL.trans (weakL_freeze (id := n + 2) (ver := 0) (sz := 5) (e := 44) (es := plainG.map gateC) (L' := [(n + 3, .row 0 3 1 (rints [6, 7]))]) (ys := [.agg [au 31, .p (.sl 5 (plainG.map gateC)), .own (n + 3) 0 0 2]]) (by simp; rfl) (by simp [frzA_own, plainG]) (by simp [hn]) (by simp; exact convE_ps (ints [6, 7])) (by simp [hn, hn0])) ?_
  refine weakL_freeze (id := n + 3) (ver := 0) (sz := 1) (e := 3) (es := ints [6, 7]) (L' := []) (by simp) (by simp [frzA_own, ints]) (hn 3) (by simp) (by simp [hn])

end Go.AM
