/- The law EngineErrorsMatchReference. -/
import Derived.Test.YtngghimofbefjaaGreatDoorG28
import Derived.Test.YtngghimofbefjaaGreatDoorE4
namespace Go.AM
set_option linter.unusedVariables false
set_option linter.unusedSimpArgs false
open Go Go.RowKit Go.Proofs

@[simp] theorem taPlay : tAgg Tryz.prog 34 = some (true, 10) := by kernel_rfl
@[simp] theorem tfPlay0 : tField Tryz.prog 34 0 = some (0, true, 6) := by kernel_rfl
@[simp] theorem tfPlay1 : tField Tryz.prog 34 1 = some (6, true, 3) := by kernel_rfl
@[simp] theorem tfPlay2 : tField Tryz.prog 34 2 = some (9, false, 1) := by kernel_rfl

abbrev playR (w : Scen) (p : Int) (gs : List Gate) (os : List Int) (xs : List (List Int)) : List AV := [au w.p, ai w.n, ai w.t, .p (.sl 1 (ints w.bad)), .p (.sl 8 (w.devs.map devC)), .p (.sl 1 (wrows w.tapes)), au p, .p (.sl 5 (gs.map gateC)), .p (.sl 1 (ints os)), .p (.sl 1 (wrows xs))]
abbrev playA (w : Scen) (p : Int) (gs : List Gate) (os : List Int) (xs : List (List Int)) : AV := .agg (playR w p gs os xs)
abbrev playB (w : Scen) (p : Int) (gs : List Gate) (os : List Int) (xs : List (List Int)) : Blk := .row 0 34 10 [playR w p gs os xs]

set_option maxHeartbeats 4000000 in
theorem law_errors (w : Scen) (p : Int) (gs : List Gate) (os : List Int) (xs : List (List Int)) (hk' : ∀ g ∈ gs, 0 ≤ g.k) : Pure Tryz.prog 3 [playA w p gs os xs] (ab true) := by
  refine pure_of Tryz.func3 rfl Tryz.ntmps3 (by simp) fun F n hF hn hn0 => ?_
  unfold playA
  repeat' (first
    | (refine sw_seq ?_) | (refine sw_block ?_) | (refine sw_skip ?_)
    | (refine n_then ?_) | (refine r_then ?_) | (refine e_then ?_) | (refine n_block ?_) | (refine r_block ?_) | (refine e_block ?_) | (refine o_block rfl ?_)
    | (refine sw_run (by simp [-getElem?_pos, List.getElem?_cons_zero, List.getElem?_cons_succ, ]; exact Is.mk _) ?_) | fail)
  refine sw_ss ?_
  repeat (refine ss_op rfl (by simp [-getElem?_pos, List.getElem?_cons_zero, List.getElem?_cons_succ, ]; exact Is.mk _) ?_)
  refine ss_pure rfl rfl rfl (by simp [-getElem?_pos, List.getElem?_cons_zero, List.getElem?_cons_succ]; exact Is.mk _) (by kernel_rfl) (awake_spec) ?_
  refine ss_all (by simp [-getElem?_pos, List.getElem?_cons_zero, List.getElem?_cons_succ, ]; exact Is.mk _) ?_
  repeat' (first
    | (refine sw_seq ?_) | (refine sw_block ?_) | (refine sw_skip ?_)
    | (refine n_then ?_) | (refine r_then ?_) | (refine e_then ?_) | (refine n_block ?_) | (refine r_block ?_) | (refine e_block ?_) | (refine o_block rfl ?_)
    | (refine sw_run (by simp [-getElem?_pos, List.getElem?_cons_zero, List.getElem?_cons_succ, ]; exact Is.mk _) ?_) | fail)
  first
    | (refine sw_true (by simp [-getElem?_pos, List.getElem?_cons_zero, List.getElem?_cons_succ, ]; exact Is.mk _) ?_) | (refine sw_false (by simp [-getElem?_pos, List.getElem?_cons_zero, List.getElem?_cons_succ, ]; exact Is.mk _) ?_)
    | (refine sw_yes (by simp; exact Is.mk _) (by assumption) ?_) | (refine sw_no (by simp; exact Is.mk _) (by assumption) ?_)
  repeat' (first
    | (refine sw_seq ?_) | (refine sw_block ?_) | (refine sw_skip ?_)
    | (refine n_then ?_) | (refine r_then ?_) | (refine e_then ?_) | (refine n_block ?_) | (refine r_block ?_) | (refine e_block ?_) | (refine o_block rfl ?_)
    | (refine sw_run (by simp [-getElem?_pos, List.getElem?_cons_zero, List.getElem?_cons_succ, ]; exact Is.mk _) ?_) | fail)
  by_cases g1 : (60 : Int) < gs.length
  · repeat' (first
      | (refine sw_seq ?_) | (refine sw_block ?_) | (refine sw_skip ?_) | (refine sw_ret ?_) | (refine sw_exit ?_)
      | (refine n_then ?_) | (refine r_then ?_) | (refine e_then ?_) | (refine n_block ?_) | (refine r_block ?_) | (refine e_block ?_) | (refine o_block rfl ?_)
      | (refine sw_run (by simp [-getElem?_pos, List.getElem?_cons_zero, List.getElem?_cons_succ, g1]; exact Is.mk _) ?_)
      | (refine sw_true (by simp [-getElem?_pos, List.getElem?_cons_zero, List.getElem?_cons_succ, g1]; exact Is.mk _) ?_) | (refine sw_false (by simp [-getElem?_pos, List.getElem?_cons_zero, List.getElem?_cons_succ, g1]; exact Is.mk _) ?_)
      | (refine sw_yes (by simp; exact Is.mk _) (by assumption) ?_)
      | (refine sw_no (by simp; exact Is.mk _) (by assumption) ?_)
      | (refine sw_if (by simp; exact Is.mk _) (fun _ => ?_) (fun _ => ?_)))
    exact end_val (by simp; exact Is.mk _) (by simp [hn0, hn]) ⟨rfl, rfl⟩
  by_cases g2 : (60 : Int) < os.length
  · repeat' (first
      | (refine sw_seq ?_) | (refine sw_block ?_) | (refine sw_skip ?_) | (refine sw_ret ?_) | (refine sw_exit ?_)
      | (refine n_then ?_) | (refine r_then ?_) | (refine e_then ?_) | (refine n_block ?_) | (refine r_block ?_) | (refine e_block ?_) | (refine o_block rfl ?_)
      | (refine sw_run (by simp [-getElem?_pos, List.getElem?_cons_zero, List.getElem?_cons_succ, g1, g2]; exact Is.mk _) ?_)
      | (refine sw_true (by simp [-getElem?_pos, List.getElem?_cons_zero, List.getElem?_cons_succ, g1, g2]; exact Is.mk _) ?_) | (refine sw_false (by simp [-getElem?_pos, List.getElem?_cons_zero, List.getElem?_cons_succ, g1, g2]; exact Is.mk _) ?_)
      | (refine sw_yes (by simp; exact Is.mk _) (by assumption) ?_)
      | (refine sw_no (by simp; exact Is.mk _) (by assumption) ?_)
      | (refine sw_if (by simp; exact Is.mk _) (fun _ => ?_) (fun _ => ?_)))
    exact end_val (by simp; exact Is.mk _) (by simp [hn0, hn]) ⟨rfl, rfl⟩
  by_cases g3 : (30 : Int) < w.devs.length
  · repeat' (first
      | (refine sw_seq ?_) | (refine sw_block ?_) | (refine sw_skip ?_) | (refine sw_ret ?_) | (refine sw_exit ?_)
      | (refine n_then ?_) | (refine r_then ?_) | (refine e_then ?_) | (refine n_block ?_) | (refine r_block ?_) | (refine e_block ?_) | (refine o_block rfl ?_)
      | (refine sw_run (by simp [-getElem?_pos, List.getElem?_cons_zero, List.getElem?_cons_succ, g1, g2, g3]; exact Is.mk _) ?_)
      | (refine sw_true (by simp [-getElem?_pos, List.getElem?_cons_zero, List.getElem?_cons_succ, g1, g2, g3]; exact Is.mk _) ?_) | (refine sw_false (by simp [-getElem?_pos, List.getElem?_cons_zero, List.getElem?_cons_succ, g1, g2, g3]; exact Is.mk _) ?_)
      | (refine sw_yes (by simp; exact Is.mk _) (by assumption) ?_)
      | (refine sw_no (by simp; exact Is.mk _) (by assumption) ?_)
      | (refine sw_if (by simp; exact Is.mk _) (fun _ => ?_) (fun _ => ?_)))
    exact end_val (by simp; exact Is.mk _) (by simp [hn0, hn]) ⟨rfl, rfl⟩
  by_cases g4 : (20 : Int) < w.tapes.length
  · repeat' (first
      | (refine sw_seq ?_) | (refine sw_block ?_) | (refine sw_skip ?_) | (refine sw_ret ?_) | (refine sw_exit ?_)
      | (refine n_then ?_) | (refine r_then ?_) | (refine e_then ?_) | (refine n_block ?_) | (refine r_block ?_) | (refine e_block ?_) | (refine o_block rfl ?_)
      | (refine sw_run (by simp [-getElem?_pos, List.getElem?_cons_zero, List.getElem?_cons_succ, g1, g2, g3, g4]; exact Is.mk _) ?_)
      | (refine sw_true (by simp [-getElem?_pos, List.getElem?_cons_zero, List.getElem?_cons_succ, g1, g2, g3, g4]; exact Is.mk _) ?_) | (refine sw_false (by simp [-getElem?_pos, List.getElem?_cons_zero, List.getElem?_cons_succ, g1, g2, g3, g4]; exact Is.mk _) ?_)
      | (refine sw_yes (by simp; exact Is.mk _) (by assumption) ?_)
      | (refine sw_no (by simp; exact Is.mk _) (by assumption) ?_)
      | (refine sw_if (by simp; exact Is.mk _) (fun _ => ?_) (fun _ => ?_)))
    exact end_val (by simp; exact Is.mk _) (by simp [hn0, hn]) ⟨rfl, rfl⟩
  by_cases g5 : (20 : Int) < w.bad.length
  · repeat' (first
      | (refine sw_seq ?_) | (refine sw_block ?_) | (refine sw_skip ?_) | (refine sw_ret ?_) | (refine sw_exit ?_)
      | (refine n_then ?_) | (refine r_then ?_) | (refine e_then ?_) | (refine n_block ?_) | (refine r_block ?_) | (refine e_block ?_) | (refine o_block rfl ?_)
      | (refine sw_run (by simp [-getElem?_pos, List.getElem?_cons_zero, List.getElem?_cons_succ, g1, g2, g3, g4, g5]; exact Is.mk _) ?_)
      | (refine sw_true (by simp [-getElem?_pos, List.getElem?_cons_zero, List.getElem?_cons_succ, g1, g2, g3, g4, g5]; exact Is.mk _) ?_) | (refine sw_false (by simp [-getElem?_pos, List.getElem?_cons_zero, List.getElem?_cons_succ, g1, g2, g3, g4, g5]; exact Is.mk _) ?_)
      | (refine sw_yes (by simp; exact Is.mk _) (by assumption) ?_)
      | (refine sw_no (by simp; exact Is.mk _) (by assumption) ?_)
      | (refine sw_if (by simp; exact Is.mk _) (fun _ => ?_) (fun _ => ?_)))
    exact end_val (by simp; exact Is.mk _) (by simp [hn0, hn]) ⟨rfl, rfl⟩
  by_cases g6 : (20 : Int) < xs.length
  · repeat' (first
      | (refine sw_seq ?_) | (refine sw_block ?_) | (refine sw_skip ?_) | (refine sw_ret ?_) | (refine sw_exit ?_)
      | (refine n_then ?_) | (refine r_then ?_) | (refine e_then ?_) | (refine n_block ?_) | (refine r_block ?_) | (refine e_block ?_) | (refine o_block rfl ?_)
      | (refine sw_run (by simp [-getElem?_pos, List.getElem?_cons_zero, List.getElem?_cons_succ, g1, g2, g3, g4, g5, g6]; exact Is.mk _) ?_)
      | (refine sw_true (by simp [-getElem?_pos, List.getElem?_cons_zero, List.getElem?_cons_succ, g1, g2, g3, g4, g5, g6]; exact Is.mk _) ?_) | (refine sw_false (by simp [-getElem?_pos, List.getElem?_cons_zero, List.getElem?_cons_succ, g1, g2, g3, g4, g5, g6]; exact Is.mk _) ?_)
      | (refine sw_yes (by simp; exact Is.mk _) (by assumption) ?_)
      | (refine sw_no (by simp; exact Is.mk _) (by assumption) ?_)
      | (refine sw_if (by simp; exact Is.mk _) (fun _ => ?_) (fun _ => ?_)))
    exact end_val (by simp; exact Is.mk _) (by simp [hn0, hn]) ⟨rfl, rfl⟩
  have hl : Small gs.length := Small.mk (by omega)
  have hx : Small xs.length := Small.mk (by omega)
  have hd : Small w.devs.length := Small.mk (by omega)
  have ht : Small w.tapes.length := Small.mk (by omega)
  repeat' (first
    | (refine sw_seq ?_) | (refine sw_block ?_) | (refine sw_skip ?_)
    | (refine n_then ?_) | (refine r_then ?_) | (refine e_then ?_) | (refine n_block ?_) | (refine r_block ?_) | (refine e_block ?_) | (refine o_block rfl ?_)
    | (refine sw_run (by simp [-getElem?_pos, List.getElem?_cons_zero, List.getElem?_cons_succ, g1, g2, g3, g4, g5, g6]; exact Is.mk _) ?_) | fail)
  first
    | (refine sw_true (by simp [-getElem?_pos, List.getElem?_cons_zero, List.getElem?_cons_succ, g1, g2, g3, g4, g5, g6]; exact Is.mk _) ?_) | (refine sw_false (by simp [-getElem?_pos, List.getElem?_cons_zero, List.getElem?_cons_succ, g1, g2, g3, g4, g5, g6]; exact Is.mk _) ?_)
    | (refine sw_yes (by simp; exact Is.mk _) (by assumption) ?_) | (refine sw_no (by simp; exact Is.mk _) (by assumption) ?_)
  repeat' (first
    | (refine sw_seq ?_) | (refine sw_block ?_) | (refine sw_skip ?_)
    | (refine n_then ?_) | (refine r_then ?_) | (refine e_then ?_) | (refine n_block ?_) | (refine r_block ?_) | (refine e_block ?_) | (refine o_block rfl ?_)
    | (refine sw_run (by simp [-getElem?_pos, List.getElem?_cons_zero, List.getElem?_cons_succ, g1, g2, g3, g4, g5, g6]; exact Is.mk _) ?_) | fail)
  refine sw_loopI (α := Nat) (fun k => [(1, .ptr n 0 0 0), (3, ai k)]) (fun _ => [(n, playB w p gs os xs)]) (fun _ => n + 1)
    (fun k => k ≤ w.tapes.length ∧ ∀ x ∈ w.tapes.take k, x.length ≤ 300) (fun k => w.tapes.length - k) 0 ⟨Nat.zero_le _, by simp⟩ ?_ ?_ ?_
  · intro _
    exact weak_cut_hp (by simp) (by simp) (by simp)
  · intro x
    exact fresh_of hF (by omega) (by simp)
  · rintro k ⟨hk, hR⟩
    by_cases hlt : k < w.tapes.length
    · obtain ⟨x, hx'⟩ := get_lt hlt
      have hw := wrap_succ hlt ht
      by_cases c1 : (300 : Int) < x.length
      · repeat' (first
          | (refine sw_seq ?_) | (refine sw_block ?_) | (refine sw_skip ?_) | (refine sw_ret ?_) | (refine sw_exit ?_)
          | (refine n_then ?_) | (refine r_then ?_) | (refine e_then ?_) | (refine n_block ?_) | (refine r_block ?_) | (refine e_block ?_) | (refine o_block rfl ?_)
          | (refine sw_run (by simp [-getElem?_pos, List.getElem?_cons_zero, List.getElem?_cons_succ, hlt, hx', c1]; exact Is.mk _) ?_)
          | (refine sw_true (by simp [-getElem?_pos, List.getElem?_cons_zero, List.getElem?_cons_succ, hlt, hx', c1]; exact Is.mk _) ?_) | (refine sw_false (by simp [-getElem?_pos, List.getElem?_cons_zero, List.getElem?_cons_succ, hlt, hx', c1]; exact Is.mk _) ?_)
          | (refine sw_yes (by simp; exact Is.mk _) (by assumption) ?_)
          | (refine sw_no (by simp; exact Is.mk _) (by assumption) ?_)
          | (refine sw_if (by simp; exact Is.mk _) (fun _ => ?_) (fun _ => ?_)))
        exact end_val (by simp; exact Is.mk _) (by simp [hn0, hn]) ⟨rfl, rfl⟩
      · repeat' (first
          | (refine sw_seq ?_) | (refine sw_block ?_) | (refine sw_skip ?_) | (refine sw_ret ?_) | (refine sw_exit ?_)
          | (refine n_then ?_) | (refine r_then ?_) | (refine e_then ?_) | (refine n_block ?_) | (refine r_block ?_) | (refine e_block ?_) | (refine o_block rfl ?_)
          | (refine sw_run (by simp [-getElem?_pos, List.getElem?_cons_zero, List.getElem?_cons_succ, hlt, hx', c1, hw]; exact Is.mk _) ?_)
          | (refine sw_true (by simp [-getElem?_pos, List.getElem?_cons_zero, List.getElem?_cons_succ, hlt, hx', c1, hw]; exact Is.mk _) ?_) | (refine sw_false (by simp [-getElem?_pos, List.getElem?_cons_zero, List.getElem?_cons_succ, hlt, hx', c1, hw]; exact Is.mk _) ?_)
          | (refine sw_yes (by simp; exact Is.mk _) (by assumption) ?_)
          | (refine sw_no (by simp; exact Is.mk _) (by assumption) ?_)
          | (refine sw_if (by simp; exact Is.mk _) (fun _ => ?_) (fun _ => ?_)))
        refine ⟨k + 1, ⟨by omega, ?_⟩, by omega, weak_cut_hp (by simp) (by simp) (by simp)⟩
        intro y hy
        rw [List.take_add_one, hx', List.mem_append] at hy
        rcases hy with hy | hy
        · exact hR y hy
        · simp only [Option.toList_some, List.mem_singleton] at hy
          subst hy
          omega
    · obtain rfl : k = w.tapes.length := by omega
      rw [List.take_length] at hR
      have hts : ∀ x ∈ w.tapes, Small x.length := fun x hx => Small.mk (by have := hR x hx; omega)
      repeat' (first
        | (refine sw_seq ?_) | (refine sw_block ?_) | (refine sw_skip ?_)
        | (refine n_then ?_) | (refine r_then ?_) | (refine e_then ?_) | (refine n_block ?_) | (refine r_block ?_) | (refine e_block ?_) | (refine o_block rfl ?_)
        | (refine sw_run (by simp [-getElem?_pos, List.getElem?_cons_zero, List.getElem?_cons_succ, hlt]; exact Is.mk _) ?_) | fail)
      first
        | (refine sw_true (by simp [-getElem?_pos, List.getElem?_cons_zero, List.getElem?_cons_succ, hlt]; exact Is.mk _) ?_) | (refine sw_false (by simp [-getElem?_pos, List.getElem?_cons_zero, List.getElem?_cons_succ, hlt]; exact Is.mk _) ?_)
        | (refine sw_yes (by simp; exact Is.mk _) (by assumption) ?_) | (refine sw_no (by simp; exact Is.mk _) (by assumption) ?_)
      refine sw_exit ?_
      repeat' (first
        | (refine sw_seq ?_) | (refine sw_block ?_) | (refine sw_skip ?_)
        | (refine n_then ?_) | (refine r_then ?_) | (refine e_then ?_) | (refine n_block ?_) | (refine r_block ?_) | (refine e_block ?_) | (refine o_block rfl ?_)
        | (refine sw_run (by simp [-getElem?_pos, List.getElem?_cons_zero, List.getElem?_cons_succ, hlt]; exact Is.mk _) ?_) | fail)
      refine sw_ss ?_
      repeat (refine ss_op rfl (by simp [-getElem?_pos, List.getElem?_cons_zero, List.getElem?_cons_succ, ]; exact Is.mk _) ?_)
      refine ss_pure rfl rfl rfl (by simp [-getElem?_pos, List.getElem?_cons_zero, List.getElem?_cons_succ]; exact Is.mk _) (by kernel_rfl) (rcheck_spec w p gs os xs hl hx hd ht hts) ?_
      by_cases he : checkV w p gs os xs = 0
      · rw [he]
        have ha : argsOk w p gs os xs = true := by
          unfold checkV at he
          by_cases h : argsOk w p gs os xs = true
          · exact h
          · rw [if_neg h] at he; cases he
        have hlen : (w.tapes.length : Int) = w.n := by simp only [argsOk, scenOk, Bool.and_eq_true, decide_eq_true_eq] at ha; exact ha.1.1.1.1.1.2
        refine ss_all (by simp [-getElem?_pos, List.getElem?_cons_zero, List.getElem?_cons_succ, ]; exact Is.mk _) ?_
        repeat' (first
          | (refine sw_seq ?_) | (refine sw_block ?_) | (refine sw_skip ?_)
          | (refine n_then ?_) | (refine r_then ?_) | (refine e_then ?_) | (refine n_block ?_) | (refine r_block ?_) | (refine e_block ?_) | (refine o_block rfl ?_)
          | (refine sw_run (by simp [-getElem?_pos, List.getElem?_cons_zero, List.getElem?_cons_succ, ]; exact Is.mk _) ?_) | fail)
        first
          | (refine sw_true (by simp [-getElem?_pos, List.getElem?_cons_zero, List.getElem?_cons_succ, ]; exact Is.mk _) ?_) | (refine sw_false (by simp [-getElem?_pos, List.getElem?_cons_zero, List.getElem?_cons_succ, ]; exact Is.mk _) ?_)
          | (refine sw_yes (by simp; exact Is.mk _) (by assumption) ?_) | (refine sw_no (by simp; exact Is.mk _) (by assumption) ?_)
        repeat' (first
          | (refine sw_seq ?_) | (refine sw_block ?_) | (refine sw_skip ?_)
          | (refine n_then ?_) | (refine r_then ?_) | (refine e_then ?_) | (refine n_block ?_) | (refine r_block ?_) | (refine e_block ?_) | (refine o_block rfl ?_)
          | (refine sw_run (by simp [-getElem?_pos, List.getElem?_cons_zero, List.getElem?_cons_succ, ]; exact Is.mk _) ?_) | fail)
        refine sw_loopI (α := Nat) (fun k => [(1, .ptr n 0 0 0), (5, ai ((k : Int) + 1))]) (fun _ => [(n, playB w p gs os xs)]) (fun _ => n + 1)
          (fun k => k ≤ w.tapes.length) (fun k => w.tapes.length - k) 0 (Nat.zero_le _) ?_ ?_ ?_
        · intro _
          exact weak_cut_hp (by simp) (by simp) (by simp)
        · intro x
          exact fresh_of hF (by omega) (by simp)
        · intro k hk
          by_cases hlt : k < w.tapes.length
          · have hw2 : IntKind.i64.wrap ((k : Int) + 1 + 1) = ((k + 1 : Nat) : Int) + 1 := by rw [i64_in (by omega)]; simp
            have hkm : (k : Int) + 1 ≤ w.n := by omega
            repeat' (first
              | (refine sw_seq ?_) | (refine sw_block ?_) | (refine sw_skip ?_) | (refine sw_ret ?_) | (refine sw_exit ?_)
              | (refine n_then ?_) | (refine r_then ?_) | (refine e_then ?_) | (refine n_block ?_) | (refine r_block ?_) | (refine e_block ?_) | (refine o_block rfl ?_)
              | (refine sw_run (by simp [-getElem?_pos, List.getElem?_cons_zero, List.getElem?_cons_succ, hkm]; exact Is.mk _) ?_)
              | (refine sw_true (by simp [-getElem?_pos, List.getElem?_cons_zero, List.getElem?_cons_succ, hkm]; exact Is.mk _) ?_) | (refine sw_false (by simp [-getElem?_pos, List.getElem?_cons_zero, List.getElem?_cons_succ, hkm]; exact Is.mk _) ?_)
              | (refine sw_yes (by simp; exact Is.mk _) (by assumption) ?_)
              | (refine sw_no (by simp; exact Is.mk _) (by assumption) ?_)
              | (refine sw_if (by simp; exact Is.mk _) (fun _ => ?_) (fun _ => ?_)))
            refine sw_draw (us := [(6,7),(6,8),(6,9),(6,10),(6,11),(6,12)]) mixed (by kernel_rfl) (by kernel_rfl) ?_
            repeat (refine ds_op rfl (by simp [-getElem?_pos, List.getElem?_cons_zero, List.getElem?_cons_succ, hlt]; exact Is.mk _) ?_)
            refine ds_pure_g rfl (by simp [-getElem?_pos, List.getElem?_cons_zero, List.getElem?_cons_succ, hlt]; exact Is.mk _) rfl (by simp [-getElem?_pos, List.getElem?_cons_zero, List.getElem?_cons_succ]; exact Is.mk _) (by kernel_rfl) (tapelen_spec w.p w.n w.t p gs os ((k : Int) + 1) hl) ?_
            repeat (refine ds_op rfl (by simp [-getElem?_pos, List.getElem?_cons_zero, List.getElem?_cons_succ, hlt]; exact Is.mk _) ?_)
            refine ds_pure_g rfl (by simp [-getElem?_pos, List.getElem?_cons_zero, List.getElem?_cons_succ, hlt]; exact Is.mk _) rfl (by simp [-getElem?_pos, List.getElem?_cons_zero, List.getElem?_cons_succ]; exact Is.mk _) (by kernel_rfl) (rtapelen_spec w.p w.n w.t p gs os ((k : Int) + 1) hl) ?_
            refine ds_all (by simp [-getElem?_pos, List.getElem?_cons_zero, List.getElem?_cons_succ, ]; exact Is.mk _) (disAll_quiet (by simp)) ?_
            repeat' (first
              | (refine sw_seq ?_) | (refine sw_block ?_) | (refine sw_skip ?_) | (refine sw_ret ?_) | (refine sw_exit ?_)
              | (refine n_then ?_) | (refine r_then ?_) | (refine e_then ?_) | (refine n_block ?_) | (refine r_block ?_) | (refine e_block ?_) | (refine o_block rfl ?_)
              | (refine sw_run (by simp [-getElem?_pos, List.getElem?_cons_zero, List.getElem?_cons_succ, hw2]; exact Is.mk _) ?_)
              | (refine sw_true (by simp [-getElem?_pos, List.getElem?_cons_zero, List.getElem?_cons_succ, hw2]; exact Is.mk _) ?_) | (refine sw_false (by simp [-getElem?_pos, List.getElem?_cons_zero, List.getElem?_cons_succ, hw2]; exact Is.mk _) ?_)
              | (refine sw_yes (by simp; exact Is.mk _) (by assumption) ?_)
              | (refine sw_no (by simp; exact Is.mk _) (by assumption) ?_)
              | (refine sw_if (by simp; exact Is.mk _) (fun _ => ?_) (fun _ => ?_)))
            exact ⟨k + 1, by omega, by omega, weak_cut_hp (by simp) (by simp) (by simp)⟩
          · obtain rfl : k = w.tapes.length := by omega
            have hkm : ¬ (w.tapes.length : Int) + 1 ≤ w.n := by omega
            repeat' (first
              | (refine sw_seq ?_) | (refine sw_block ?_) | (refine sw_skip ?_) | (refine sw_ret ?_) | (refine sw_exit ?_)
              | (refine n_then ?_) | (refine r_then ?_) | (refine e_then ?_) | (refine n_block ?_) | (refine r_block ?_) | (refine e_block ?_) | (refine o_block rfl ?_)
              | (refine sw_run (by simp [-getElem?_pos, List.getElem?_cons_zero, List.getElem?_cons_succ, hkm]; exact Is.mk _) ?_)
              | (refine sw_true (by simp [-getElem?_pos, List.getElem?_cons_zero, List.getElem?_cons_succ, hkm]; exact Is.mk _) ?_) | (refine sw_false (by simp [-getElem?_pos, List.getElem?_cons_zero, List.getElem?_cons_succ, hkm]; exact Is.mk _) ?_)
              | (refine sw_yes (by simp; exact Is.mk _) (by assumption) ?_)
              | (refine sw_no (by simp; exact Is.mk _) (by assumption) ?_)
              | (refine sw_if (by simp; exact Is.mk _) (fun _ => ?_) (fun _ => ?_)))
            exact end_val (by simp; exact Is.mk _) (by simp [hn0, hn]) ⟨rfl, rfl⟩
      · obtain ⟨e, hee⟩ : ∃ e, checkV w p gs os xs = e := ⟨_, rfl⟩
        have hne : ¬ e = 0 := by rw [← hee]; exact he
        rw [hee]
        refine ss_all (by simp [-getElem?_pos, List.getElem?_cons_zero, List.getElem?_cons_succ, ]; exact Is.mk _) ?_
        repeat' (first
          | (refine sw_seq ?_) | (refine sw_block ?_) | (refine sw_skip ?_)
          | (refine n_then ?_) | (refine r_then ?_) | (refine e_then ?_) | (refine n_block ?_) | (refine r_block ?_) | (refine e_block ?_) | (refine o_block rfl ?_)
          | (refine sw_run (by simp [-getElem?_pos, List.getElem?_cons_zero, List.getElem?_cons_succ, hne]; exact Is.mk _) ?_) | fail)
        first
          | (refine sw_true (by simp [-getElem?_pos, List.getElem?_cons_zero, List.getElem?_cons_succ, hne]; exact Is.mk _) ?_) | (refine sw_false (by simp [-getElem?_pos, List.getElem?_cons_zero, List.getElem?_cons_succ, hne]; exact Is.mk _) ?_)
          | (refine sw_yes (by simp; exact Is.mk _) (by assumption) ?_) | (refine sw_no (by simp; exact Is.mk _) (by assumption) ?_)
        repeat' (first
          | (refine sw_seq ?_) | (refine sw_block ?_) | (refine sw_skip ?_)
          | (refine n_then ?_) | (refine r_then ?_) | (refine e_then ?_) | (refine n_block ?_) | (refine r_block ?_) | (refine e_block ?_) | (refine o_block rfl ?_)
          | (refine sw_run (by simp [-getElem?_pos, List.getElem?_cons_zero, List.getElem?_cons_succ, hne]; exact Is.mk _) ?_) | fail)
        refine sw_ss ?_
        repeat (refine ss_op rfl (by simp [-getElem?_pos, List.getElem?_cons_zero, List.getElem?_cons_succ, ]; exact Is.mk _) ?_)
        refine ss_pure rfl rfl rfl (by simp [-getElem?_pos, List.getElem?_cons_zero, List.getElem?_cons_succ]; exact Is.mk _) (by kernel_rfl) (run_err w p gs os xs hl hx hd ht hts hk' e hee hne) ?_
        refine ss_all (by simp [-getElem?_pos, List.getElem?_cons_zero, List.getElem?_cons_succ, ]; exact Is.mk _) ?_
        repeat' (first
          | (refine sw_seq ?_) | (refine sw_block ?_) | (refine sw_skip ?_)
          | (refine n_then ?_) | (refine r_then ?_) | (refine e_then ?_) | (refine n_block ?_) | (refine r_block ?_) | (refine e_block ?_) | (refine o_block rfl ?_)
          | (refine sw_run (by simp [-getElem?_pos, List.getElem?_cons_zero, List.getElem?_cons_succ, ]; exact Is.mk _) ?_) | fail)
        refine sw_ss ?_
        repeat (refine ss_op rfl (by simp [-getElem?_pos, List.getElem?_cons_zero, List.getElem?_cons_succ, ]; exact Is.mk _) ?_)
        refine ss_pure rfl rfl rfl (by simp [-getElem?_pos, List.getElem?_cons_zero, List.getElem?_cons_succ]; exact Is.mk _) (by kernel_rfl) (runc_err w p gs os xs hl hx hd ht hts hk' e hee hne) ?_
        refine ss_all (by simp [-getElem?_pos, List.getElem?_cons_zero, List.getElem?_cons_succ, ]; exact Is.mk _) ?_
        repeat' (first
          | (refine sw_seq ?_) | (refine sw_block ?_) | (refine sw_skip ?_)
          | (refine n_then ?_) | (refine r_then ?_) | (refine e_then ?_) | (refine n_block ?_) | (refine r_block ?_) | (refine e_block ?_) | (refine o_block rfl ?_)
          | (refine sw_run (by simp [-getElem?_pos, List.getElem?_cons_zero, List.getElem?_cons_succ, ]; exact Is.mk _) ?_) | fail)
        refine sw_ss ?_
        repeat (refine ss_op rfl (by simp [-getElem?_pos, List.getElem?_cons_zero, List.getElem?_cons_succ, ]; exact Is.mk _) ?_)
        refine ss_pure_g rfl (by simp [-getElem?_pos, List.getElem?_cons_zero, List.getElem?_cons_succ, ]; exact Is.mk _) rfl (by simp; exact Is.mk _) (by kernel_rfl) (same_zero) ?_
        repeat (refine ss_op rfl (by simp [-getElem?_pos, List.getElem?_cons_zero, List.getElem?_cons_succ, ]; exact Is.mk _) ?_)
        refine ss_pure_g rfl (by simp [-getElem?_pos, List.getElem?_cons_zero, List.getElem?_cons_succ, ]; exact Is.mk _) rfl (by simp; exact Is.mk _) (by kernel_rfl) (same_zero) ?_
        refine ss_all (by simp [-getElem?_pos, List.getElem?_cons_zero, List.getElem?_cons_succ, ]; exact Is.mk _) ?_
        repeat' (first
          | (refine sw_seq ?_) | (refine sw_block ?_) | (refine sw_skip ?_) | (refine sw_ret ?_) | (refine sw_exit ?_)
          | (refine n_then ?_) | (refine r_then ?_) | (refine e_then ?_) | (refine n_block ?_) | (refine r_block ?_) | (refine e_block ?_) | (refine o_block rfl ?_)
          | (refine sw_run (by simp [-getElem?_pos, List.getElem?_cons_zero, List.getElem?_cons_succ, ]; exact Is.mk _) ?_)
          | (refine sw_true (by simp [-getElem?_pos, List.getElem?_cons_zero, List.getElem?_cons_succ, ]; exact Is.mk _) ?_) | (refine sw_false (by simp [-getElem?_pos, List.getElem?_cons_zero, List.getElem?_cons_succ, ]; exact Is.mk _) ?_)
          | (refine sw_yes (by simp; exact Is.mk _) (by assumption) ?_)
          | (refine sw_no (by simp; exact Is.mk _) (by assumption) ?_)
          | (refine sw_if (by simp; exact Is.mk _) (fun _ => ?_) (fun _ => ?_)))
        exact end_val (by simp; exact Is.mk _) (by simp [hn0, hn, Nat.add_assoc]) ⟨rfl, rfl⟩

end Go.AM
