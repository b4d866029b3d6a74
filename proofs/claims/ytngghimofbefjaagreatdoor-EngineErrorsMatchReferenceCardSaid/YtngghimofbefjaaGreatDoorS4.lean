/- Valid circuits. -/
import Derived.Test.YtngghimofbefjaaGreatDoorS3
namespace Go.AM
set_option linter.unusedVariables false
set_option linter.unusedSimpArgs false
open Go Go.RowKit Go.Proofs

def gatesOk (p : Int) : Nat → List Gate → Bool
  | _, [] => true
  | i, g :: gs => gateOk p i g && gatesOk p (i + 1) gs
def outsOk (n : Nat) : List Int → Bool
  | [] => true
  | o :: os => (decide (0 ≤ o) && decide (o < n)) && outsOk n os
def circOk (p : Int) (gs : List Gate) (os : List Int) : Bool :=
  supp p && decide (gs.length ≤ 20000) && decide (os.length ≤ 1000) && gatesOk p 0 gs && outsOk gs.length os

theorem valid_loop2 {p : Int} {gs : List Gate} {os : List Int} (hgs : Small gs.length) (hos : Small os.length) {F : AHeap} {n : Nat} (hF : Fresh F [] n) (hn0 : F n = none) (hok : gatesOk p 0 gs = true) : True := trivial

set_option maxHeartbeats 1000000 in
theorem validc_spec (p : Int) (gs : List Gate) (os : List Int) : Pure Tryz.prog 14 [circA p gs os] (ab (circOk p gs os)) := by
  refine pure_of Tryz.func14 rfl Tryz.ntmps14 (by simp) fun F n hF hn hn0 => ?_
  unfold circA
  repeat' (first
    | (refine sw_seq ?_) | (refine sw_block ?_) | (refine sw_skip ?_) | (refine sw_ret ?_) | (refine sw_exit ?_)
    | (refine n_then ?_) | (refine r_then ?_) | (refine e_then ?_) | (refine n_block ?_) | (refine r_block ?_) | (refine e_block ?_) | (refine o_block rfl ?_)
    | (refine sw_run (by simp []; exact Is.mk _) ?_)
    | (refine sw_true (by simp []; exact Is.mk _) ?_) | (refine sw_false (by simp []; exact Is.mk _) ?_)
    | (refine sw_yes (by simp; exact Is.mk _) (by assumption) ?_)
    | (refine sw_no (by simp; exact Is.mk _) (by assumption) ?_)
    | (refine sw_if (by simp; exact Is.mk _) (fun _ => ?_) (fun _ => ?_)))
  refine sw_ss ?_
  repeat (refine ss_op rfl (by simp []; exact Is.mk _) ?_)
  refine ss_pure rfl rfl rfl (by simp; exact Is.mk _) (by kernel_rfl) (supported_spec p) ?_
  by_cases h1 : supp p = true
  · by_cases h2 : (20000 : Int) < gs.length
    · refine ss_all (by simp [h1, h2]; exact Is.mk _) ?_
      repeat' (first
        | (refine sw_seq ?_) | (refine sw_block ?_) | (refine sw_skip ?_) | (refine sw_ret ?_) | (refine sw_exit ?_)
        | (refine n_then ?_) | (refine r_then ?_) | (refine e_then ?_) | (refine n_block ?_) | (refine r_block ?_) | (refine e_block ?_) | (refine o_block rfl ?_)
        | (refine sw_run (by simp []; exact Is.mk _) ?_)
        | (refine sw_true (by simp []; exact Is.mk _) ?_) | (refine sw_false (by simp []; exact Is.mk _) ?_)
        | (refine sw_yes (by simp; exact Is.mk _) (by assumption) ?_)
        | (refine sw_no (by simp; exact Is.mk _) (by assumption) ?_)
        | (refine sw_if (by simp; exact Is.mk _) (fun _ => ?_) (fun _ => ?_)))
      exact end_val (by simp; exact Is.mk _) (by simp [hn0, hn]) ⟨rfl, by simp [circOk]; omega⟩
    · have hgl : gs.length ≤ 20000 := by omega
      have hgs : Small gs.length := Small.mk (by omega)
      by_cases h3 : (1000 : Int) < os.length
      · refine ss_all (by simp [h1, h2, h3]; exact Is.mk _) ?_
        repeat' (first
          | (refine sw_seq ?_) | (refine sw_block ?_) | (refine sw_skip ?_) | (refine sw_ret ?_) | (refine sw_exit ?_)
          | (refine n_then ?_) | (refine r_then ?_) | (refine e_then ?_) | (refine n_block ?_) | (refine r_block ?_) | (refine e_block ?_) | (refine o_block rfl ?_)
          | (refine sw_run (by simp []; exact Is.mk _) ?_)
          | (refine sw_true (by simp []; exact Is.mk _) ?_) | (refine sw_false (by simp []; exact Is.mk _) ?_)
          | (refine sw_yes (by simp; exact Is.mk _) (by assumption) ?_)
          | (refine sw_no (by simp; exact Is.mk _) (by assumption) ?_)
          | (refine sw_if (by simp; exact Is.mk _) (fun _ => ?_) (fun _ => ?_)))
        exact end_val (by simp; exact Is.mk _) (by simp [hn0, hn]) ⟨rfl, by simp [circOk]; omega⟩
      · have hol : os.length ≤ 1000 := by omega
        have hos : Small os.length := Small.mk (by omega)
        refine ss_all (by simp [h1, h2, h3]; exact Is.mk _) ?_
        repeat' (first
          | (refine sw_seq ?_) | (refine sw_block ?_) | (refine sw_skip ?_) | (refine sw_ret ?_) | (refine sw_exit ?_)
          | (refine n_then ?_) | (refine r_then ?_) | (refine e_then ?_) | (refine n_block ?_) | (refine r_block ?_) | (refine e_block ?_) | (refine o_block rfl ?_)
          | (refine sw_run (by simp []; exact Is.mk _) ?_)
          | (refine sw_true (by simp []; exact Is.mk _) ?_) | (refine sw_false (by simp []; exact Is.mk _) ?_)
          | (refine sw_yes (by simp; exact Is.mk _) (by assumption) ?_)
          | (refine sw_no (by simp; exact Is.mk _) (by assumption) ?_)
          | (refine sw_if (by simp; exact Is.mk _) (fun _ => ?_) (fun _ => ?_)))
        refine sw_loopI (α := Nat) (fun k => [(1, .ptr n 0 0 0), (3, ai k)])
          (fun k => [(n, circB p gs os)]) (fun _ => n + 1)
          (fun k => k ≤ gs.length ∧ gatesOk p k (gs.drop k) = gatesOk p 0 gs) (fun k => gs.length - k) 0 (by simp) ?_ ?_ ?_
        · intro _
          exact weak_cut_hp (by simp) (by simp) (by simp)
        · intro x
          exact fresh_of hF (by omega) (by simp)
        · rintro k ⟨hk, hd⟩
          by_cases hlt : k < gs.length
          · obtain ⟨g, hg⟩ := get_lt hlt
            have hw := wrap_succ hlt hgs
            rw [drop_cons hg] at hd
            simp only [gatesOk] at hd
            repeat' (first
              | (refine sw_seq ?_) | (refine sw_block ?_) | (refine sw_skip ?_) | (refine sw_ret ?_) | (refine sw_exit ?_)
              | (refine n_then ?_) | (refine r_then ?_) | (refine e_then ?_) | (refine n_block ?_) | (refine r_block ?_) | (refine e_block ?_) | (refine o_block rfl ?_)
              | (refine sw_run (by simp []; exact Is.mk _) ?_)
              | (refine sw_true (by simp []; exact Is.mk _) ?_) | (refine sw_false (by simp []; exact Is.mk _) ?_)
              | (refine sw_yes (by simp; exact Is.mk _) (by assumption) ?_)
              | (refine sw_no (by simp; exact Is.mk _) (by assumption) ?_)
              | (refine sw_if (by simp; exact Is.mk _) (fun _ => ?_) (fun _ => ?_)))
            refine sw_draw mixed (by kernel_rfl) rfl ?_
            repeat (refine ds_op rfl (by simp [hg, gateC]; exact Is.mk _) ?_)
            refine ds_pure rfl rfl rfl (by simp; exact Is.mk _) (by kernel_rfl) (gate_spec p k g) ?_
            refine ds_all (by simp; exact Is.mk _) (disAll_quiet (by simp)) ?_
            by_cases h4 : gateOk p k g = true
            · repeat' (first
                | (refine sw_seq ?_) | (refine sw_block ?_) | (refine sw_skip ?_) | (refine sw_ret ?_) | (refine sw_exit ?_)
                | (refine n_then ?_) | (refine r_then ?_) | (refine e_then ?_) | (refine n_block ?_) | (refine r_block ?_) | (refine e_block ?_) | (refine o_block rfl ?_)
                | (refine sw_run (by simp [h4, hw]; exact Is.mk _) ?_)
                | (refine sw_true (by simp [h4, hw]; exact Is.mk _) ?_) | (refine sw_false (by simp [h4, hw]; exact Is.mk _) ?_)
                | (refine sw_yes (by simp; exact Is.mk _) (by assumption) ?_)
                | (refine sw_no (by simp; exact Is.mk _) (by assumption) ?_)
                | (refine sw_if (by simp; exact Is.mk _) (fun _ => ?_) (fun _ => ?_)))
              exact ⟨k + 1, ⟨by omega, by rw [h4] at hd; simpa using hd⟩, by omega, weak_cut_hp (by simp) (by simp) (by simp)⟩
            · repeat' (first
                | (refine sw_seq ?_) | (refine sw_block ?_) | (refine sw_skip ?_) | (refine sw_ret ?_) | (refine sw_exit ?_)
                | (refine n_then ?_) | (refine r_then ?_) | (refine e_then ?_) | (refine n_block ?_) | (refine r_block ?_) | (refine e_block ?_) | (refine o_block rfl ?_)
                | (refine sw_run (by simp [h4]; exact Is.mk _) ?_)
                | (refine sw_true (by simp [h4]; exact Is.mk _) ?_) | (refine sw_false (by simp [h4]; exact Is.mk _) ?_)
                | (refine sw_yes (by simp; exact Is.mk _) (by assumption) ?_)
                | (refine sw_no (by simp; exact Is.mk _) (by assumption) ?_)
                | (refine sw_if (by simp; exact Is.mk _) (fun _ => ?_) (fun _ => ?_)))
              exact end_val (by simp; exact Is.mk _) (by simp [hn0, hn]) ⟨rfl, by simp only [Bool.not_eq_true] at h4; rw [h4] at hd; simp [circOk, ← hd]⟩
          · obtain rfl : k = gs.length := by omega
            simp only [List.drop_length, gatesOk] at hd
            repeat' (first
              | (refine sw_seq ?_) | (refine sw_block ?_) | (refine sw_skip ?_) | (refine sw_ret ?_) | (refine sw_exit ?_)
              | (refine n_then ?_) | (refine r_then ?_) | (refine e_then ?_) | (refine n_block ?_) | (refine r_block ?_) | (refine e_block ?_) | (refine o_block rfl ?_)
              | (refine sw_run (by simp []; exact Is.mk _) ?_)
              | (refine sw_true (by simp []; exact Is.mk _) ?_) | (refine sw_false (by simp []; exact Is.mk _) ?_)
              | (refine sw_yes (by simp; exact Is.mk _) (by assumption) ?_)
              | (refine sw_no (by simp; exact Is.mk _) (by assumption) ?_)
              | (refine sw_if (by simp; exact Is.mk _) (fun _ => ?_) (fun _ => ?_)))
            refine sw_loopI (α := Nat) (fun k => [(1, .ptr n 0 0 0), (4, ai k)])
              (fun k => [(n, circB p gs os)]) (fun _ => n + 1)
              (fun k => k ≤ os.length ∧ outsOk gs.length (os.drop k) = outsOk gs.length os) (fun k => os.length - k) 0 (by simp) ?_ ?_ ?_
            · intro _
              exact weak_cut_hp (by simp) (by simp) (by simp)
            · intro x
              exact fresh_of hF (by omega) (by simp)
            · rintro k ⟨hk, hd2⟩
              by_cases hlt : k < os.length
              · obtain ⟨o, ho⟩ := get_lt hlt
                have hw := wrap_succ hlt hos
                rw [drop_cons ho] at hd2
                simp only [outsOk] at hd2
                by_cases h5 : o < 0
                · repeat' (first
                    | (refine sw_seq ?_) | (refine sw_block ?_) | (refine sw_skip ?_) | (refine sw_ret ?_) | (refine sw_exit ?_)
                    | (refine n_then ?_) | (refine r_then ?_) | (refine e_then ?_) | (refine n_block ?_) | (refine r_block ?_) | (refine e_block ?_) | (refine o_block rfl ?_)
                    | (refine sw_run (by simp [ho, h5]; exact Is.mk _) ?_)
                    | (refine sw_true (by simp [ho, h5]; exact Is.mk _) ?_) | (refine sw_false (by simp [ho, h5]; exact Is.mk _) ?_)
                    | (refine sw_yes (by simp; exact Is.mk _) (by assumption) ?_)
                    | (refine sw_no (by simp; exact Is.mk _) (by assumption) ?_)
                    | (refine sw_if (by simp; exact Is.mk _) (fun _ => ?_) (fun _ => ?_)))
                  refine sw_draw mixed (by kernel_rfl) rfl (ds_all (by simp [ho, h5]; exact Is.mk _) (disAll_quiet (by simp)) ?_)
                  repeat' (first
                    | (refine sw_seq ?_) | (refine sw_block ?_) | (refine sw_skip ?_) | (refine sw_ret ?_) | (refine sw_exit ?_)
                    | (refine n_then ?_) | (refine r_then ?_) | (refine e_then ?_) | (refine n_block ?_) | (refine r_block ?_) | (refine e_block ?_) | (refine o_block rfl ?_)
                    | (refine sw_run (by simp []; exact Is.mk _) ?_)
                    | (refine sw_true (by simp []; exact Is.mk _) ?_) | (refine sw_false (by simp []; exact Is.mk _) ?_)
                    | (refine sw_yes (by simp; exact Is.mk _) (by assumption) ?_)
                    | (refine sw_no (by simp; exact Is.mk _) (by assumption) ?_)
                    | (refine sw_if (by simp; exact Is.mk _) (fun _ => ?_) (fun _ => ?_)))
                  exact end_val (by simp; exact Is.mk _) (by simp [hn0, hn]) ⟨rfl, by rw [show decide (0 ≤ o) = false by simp; omega] at hd2; simp [circOk, ← hd2]⟩
                · have h5' : 0 ≤ o := by omega
                  by_cases h6 : (gs.length : Int) ≤ o
                  · repeat' (first
                      | (refine sw_seq ?_) | (refine sw_block ?_) | (refine sw_skip ?_) | (refine sw_ret ?_) | (refine sw_exit ?_)
                      | (refine n_then ?_) | (refine r_then ?_) | (refine e_then ?_) | (refine n_block ?_) | (refine r_block ?_) | (refine e_block ?_) | (refine o_block rfl ?_)
                      | (refine sw_run (by simp [ho, h5]; exact Is.mk _) ?_)
                      | (refine sw_true (by simp [ho, h5]; exact Is.mk _) ?_) | (refine sw_false (by simp [ho, h5]; exact Is.mk _) ?_)
                      | (refine sw_yes (by simp; exact Is.mk _) (by assumption) ?_)
                      | (refine sw_no (by simp; exact Is.mk _) (by assumption) ?_)
                      | (refine sw_if (by simp; exact Is.mk _) (fun _ => ?_) (fun _ => ?_)))
                    refine sw_draw mixed (by kernel_rfl) rfl (ds_all (by simp [ho, h5, h6]; exact Is.mk _) (disAll_quiet (by simp)) ?_)
                    repeat' (first
                      | (refine sw_seq ?_) | (refine sw_block ?_) | (refine sw_skip ?_) | (refine sw_ret ?_) | (refine sw_exit ?_)
                      | (refine n_then ?_) | (refine r_then ?_) | (refine e_then ?_) | (refine n_block ?_) | (refine r_block ?_) | (refine e_block ?_) | (refine o_block rfl ?_)
                      | (refine sw_run (by simp [h6]; exact Is.mk _) ?_)
                      | (refine sw_true (by simp [h6]; exact Is.mk _) ?_) | (refine sw_false (by simp [h6]; exact Is.mk _) ?_)
                      | (refine sw_yes (by simp; exact Is.mk _) (by assumption) ?_)
                      | (refine sw_no (by simp; exact Is.mk _) (by assumption) ?_)
                      | (refine sw_if (by simp; exact Is.mk _) (fun _ => ?_) (fun _ => ?_)))
                    exact end_val (by simp; exact Is.mk _) (by simp [hn0, hn]) ⟨rfl, by rw [show decide (o < gs.length) = false by simp; omega] at hd2; simp [circOk, ← hd2]⟩
                  · repeat' (first
                      | (refine sw_seq ?_) | (refine sw_block ?_) | (refine sw_skip ?_) | (refine sw_ret ?_) | (refine sw_exit ?_)
                      | (refine n_then ?_) | (refine r_then ?_) | (refine e_then ?_) | (refine n_block ?_) | (refine r_block ?_) | (refine e_block ?_) | (refine o_block rfl ?_)
                      | (refine sw_run (by simp [ho, h5]; exact Is.mk _) ?_)
                      | (refine sw_true (by simp [ho, h5]; exact Is.mk _) ?_) | (refine sw_false (by simp [ho, h5]; exact Is.mk _) ?_)
                      | (refine sw_yes (by simp; exact Is.mk _) (by assumption) ?_)
                      | (refine sw_no (by simp; exact Is.mk _) (by assumption) ?_)
                      | (refine sw_if (by simp; exact Is.mk _) (fun _ => ?_) (fun _ => ?_)))
                    refine sw_draw mixed (by kernel_rfl) rfl (ds_all (by simp [ho, h5, h6]; exact Is.mk _) (disAll_quiet (by simp)) ?_)
                    repeat' (first
                      | (refine sw_seq ?_) | (refine sw_block ?_) | (refine sw_skip ?_) | (refine sw_ret ?_) | (refine sw_exit ?_)
                      | (refine n_then ?_) | (refine r_then ?_) | (refine e_then ?_) | (refine n_block ?_) | (refine r_block ?_) | (refine e_block ?_) | (refine o_block rfl ?_)
                      | (refine sw_run (by simp [h6, hw]; exact Is.mk _) ?_)
                      | (refine sw_true (by simp [h6, hw]; exact Is.mk _) ?_) | (refine sw_false (by simp [h6, hw]; exact Is.mk _) ?_)
                      | (refine sw_yes (by simp; exact Is.mk _) (by assumption) ?_)
                      | (refine sw_no (by simp; exact Is.mk _) (by assumption) ?_)
                      | (refine sw_if (by simp; exact Is.mk _) (fun _ => ?_) (fun _ => ?_)))
                    exact ⟨k + 1, ⟨by omega, by rw [show decide (0 ≤ o) = true by simp; omega, show decide (o < gs.length) = true by simp; omega] at hd2; simpa using hd2⟩, by omega, weak_cut_hp (by simp) (by simp) (by simp)⟩
              · obtain rfl : k = os.length := by omega
                simp only [List.drop_length, outsOk] at hd2
                repeat' (first
                  | (refine sw_seq ?_) | (refine sw_block ?_) | (refine sw_skip ?_) | (refine sw_ret ?_) | (refine sw_exit ?_)
                  | (refine n_then ?_) | (refine r_then ?_) | (refine e_then ?_) | (refine n_block ?_) | (refine r_block ?_) | (refine e_block ?_) | (refine o_block rfl ?_)
                  | (refine sw_run (by simp []; exact Is.mk _) ?_)
                  | (refine sw_true (by simp []; exact Is.mk _) ?_) | (refine sw_false (by simp []; exact Is.mk _) ?_)
                  | (refine sw_yes (by simp; exact Is.mk _) (by assumption) ?_)
                  | (refine sw_no (by simp; exact Is.mk _) (by assumption) ?_)
                  | (refine sw_if (by simp; exact Is.mk _) (fun _ => ?_) (fun _ => ?_)))
                exact end_val (by simp; exact Is.mk _) (by simp [hn0, hn]) ⟨rfl, by simp [circOk, h1, ← hd, ← hd2, hgl, hol]⟩
  · refine ss_all (by simp [h1]; exact Is.mk _) ?_
    repeat' (first
      | (refine sw_seq ?_) | (refine sw_block ?_) | (refine sw_skip ?_) | (refine sw_ret ?_) | (refine sw_exit ?_)
      | (refine n_then ?_) | (refine r_then ?_) | (refine e_then ?_) | (refine n_block ?_) | (refine r_block ?_) | (refine e_block ?_) | (refine o_block rfl ?_)
      | (refine sw_run (by simp []; exact Is.mk _) ?_)
      | (refine sw_true (by simp []; exact Is.mk _) ?_) | (refine sw_false (by simp []; exact Is.mk _) ?_)
      | (refine sw_yes (by simp; exact Is.mk _) (by assumption) ?_)
      | (refine sw_no (by simp; exact Is.mk _) (by assumption) ?_)
      | (refine sw_if (by simp; exact Is.mk _) (fun _ => ?_) (fun _ => ?_)))
    exact end_val (by simp; exact Is.mk _) (by simp [hn0, hn]) ⟨rfl, by simp [circOk, h1]⟩

/-- 'small'. -/
def smallC (p : Int) (gs : List Gate) (os : List Int) (m : Int) : Bool := decide ((gs.length : Int) ≤ m) && decide ((os.length : Int) ≤ m) && circOk p gs os

end Go.AM
