/- The law ScheduleSideBySide. -/
import Derived.Test.YtmljoaiedihoiaaP6
import Derived.Test.YtmljoaiedihoiaaL1
import Derived.Test.YtmljoaiedihoiaaAm29
namespace Go.AM
set_option linter.unusedVariables false
set_option linter.unusedSimpArgs false
open Go Go.RowKit Go.Proofs

abbrev bothB (n v : Nat) (p : Int) (os : List Int) (m : Nat) : Blk := .row 0 26 3 [[au p, .own (n + 2) v 0 m, .p (.sl 1 (ints os))]]
abbrev gateRow (v : Nat) (bs : List Gate) : Blk := .row v 44 5 (pcells (bs.map gateC))
theorem gates_app (bs : List Gate) (g : Gate) : pcells (bs.map gateC) ++ [[.p (pi g.kind), .p (pi g.frm), .p (pi g.a), .p (pi g.b), .p (pu g.k)]] = pcells ((bs ++ [g]).map gateC) := by simp [gateC, pcells]

/-- The law's layers so far. -/
def wantK (a b : List (List Int)) (n k : Nat) : List (List Int) := (List.range k).map fun k => a.getD k [] ++ (b.getD k []).map fun x => x + (n : Int)
@[simp] theorem wantK_length (a b : List (List Int)) (n k : Nat) : (wantK a b n k).length = k := by simp [wantK]
theorem wantK_succ (a b : List (List Int)) (n k : Nat) : wantK a b n k ++ [a.getD k [] ++ (b.getD k []).map fun x => x + (n : Int)] = wantK a b n (k + 1) := by simp [wantK, List.range_succ]

abbrev wT (n m k : Nat) : Slots := [(2, .ptr n 0 0 0), (3, .ptr (n + 1) 0 0 0), (5, ai m), (6, .ptr (n + 4) 0 0 0), (9, .ptr (n + 5) 0 0 0), (10, .ptr (n + 6) 0 0 0), (11, .ptr (n + 7) 0 0 0), (12, ai k)]
abbrev wF (n v : Nat) (p q : Int) (gs hs bs : List Gate) (os ot : List Int) (a b ws : List (List Int)) : Locs :=
  [(n + 8, .row ws.length 24 1 (pcells (lays ws))), (n + 7, .row 0 29 1 [[.own (n + 8) ws.length 0 ws.length]]), (n + 6, schedB b), (n + 5, schedB a), (n + 4, bothB n v p os bs.length), (n + 2, gateRow v bs), (n + 1, circB q hs ot), (n, circB p gs os)]

theorem convE_app_self {D : Nat → Prop} {A : AV → AV → Prop} : ∀ (a b : List (List AV)), convE D A (a ++ b) (a ++ b) = (convE D A a a ∧ convE D A b b)
  | [], b => by simp [convE]
  | x :: a, b => by simp only [List.cons_append, convE]; rw [convE_app_self a b]; simp [and_assoc]
theorem convE_gts {D : Nat → Prop} {A : AV → AV → Prop} (gs : List Gate) : convE D A (List.map ((fun e => List.map AV.p e) ∘ gateC) gs) (List.map ((fun e => List.map AV.p e) ∘ gateC) gs) = True := eq_true (by have := convE_ps (D := D) (A := A) (gs.map gateC); simpa [pcells] using this)
theorem keptG {D : Nat → Prop} (v : Nat) (bs : List Gate) : convB D noA (gateRow v bs) (gateRow v bs) := ⟨rfl, rfl, rfl, convE_ps _⟩

set_option maxHeartbeats 4000000 in
theorem law_side (p q : Int) (gs hs : List Gate) (os ot : List Int) : Pure Try.prog 8 [circA p gs os, circA q hs ot] (ab true) := by
  refine pure_of Try.func8 rfl Try.ntmps8 (by simp) fun F n hF hn hn0 => ?_
  unfold circA
  repeat' (first
    | (refine sw_seq ?_) | (refine sw_block ?_) | (refine sw_skip ?_) | (refine sw_ret ?_) | (refine sw_exit ?_)
    | (refine n_then ?_) | (refine r_then ?_) | (refine e_then ?_) | (refine n_block ?_) | (refine r_block ?_) | (refine e_block ?_) | (refine o_block rfl ?_)
    | (refine sw_run (by simp [-getElem?_pos, List.getElem?_cons_zero, List.getElem?_cons_succ, ]; exact Is.mk _) ?_)
    | (refine sw_true (by simp [-getElem?_pos, List.getElem?_cons_zero, List.getElem?_cons_succ, ]; exact Is.mk _) ?_) | (refine sw_false (by simp [-getElem?_pos, List.getElem?_cons_zero, List.getElem?_cons_succ, ]; exact Is.mk _) ?_)
    | (refine sw_yes (by simp; exact Is.mk _) (by assumption) ?_)
    | (refine sw_no (by simp; exact Is.mk _) (by assumption) ?_)
    | (refine sw_if (by simp; exact Is.mk _) (fun _ => ?_) (fun _ => ?_)))
  refine sw_ss ?_
  repeat (refine ss_op rfl (by simp [-getElem?_pos, List.getElem?_cons_zero, List.getElem?_cons_succ, ]; exact Is.mk _) ?_)
  refine ss_pure rfl rfl rfl (by simp [-getElem?_pos, List.getElem?_cons_zero, List.getElem?_cons_succ]; exact Is.mk _) (by kernel_rfl) (awake_spec) ?_
  refine ss_all (by simp [-getElem?_pos, List.getElem?_cons_zero, List.getElem?_cons_succ, ]; exact Is.mk _) ?_
  repeat' (first
    | (refine sw_seq ?_) | (refine sw_block ?_) | (refine sw_skip ?_) | (refine sw_ret ?_) | (refine sw_exit ?_)
    | (refine n_then ?_) | (refine r_then ?_) | (refine e_then ?_) | (refine n_block ?_) | (refine r_block ?_) | (refine e_block ?_) | (refine o_block rfl ?_)
    | (refine sw_run (by simp [-getElem?_pos, List.getElem?_cons_zero, List.getElem?_cons_succ, ]; exact Is.mk _) ?_)
    | (refine sw_true (by simp [-getElem?_pos, List.getElem?_cons_zero, List.getElem?_cons_succ, ]; exact Is.mk _) ?_) | (refine sw_false (by simp [-getElem?_pos, List.getElem?_cons_zero, List.getElem?_cons_succ, ]; exact Is.mk _) ?_)
    | (refine sw_yes (by simp; exact Is.mk _) (by assumption) ?_)
    | (refine sw_no (by simp; exact Is.mk _) (by assumption) ?_)
    | (refine sw_if (by simp; exact Is.mk _) (fun _ => ?_) (fun _ => ?_)))
  refine sw_ss ?_
  repeat (refine ss_op rfl (by simp [-getElem?_pos, List.getElem?_cons_zero, List.getElem?_cons_succ, ]; exact Is.mk _) ?_)
  refine ss_pure rfl rfl rfl (by simp [-getElem?_pos, List.getElem?_cons_zero, List.getElem?_cons_succ]; exact Is.mk _) (by kernel_rfl) (small_spec p gs os 100) ?_
  cases h1 : smallC p gs os 100
  · refine ss_all (by simp [-getElem?_pos, List.getElem?_cons_zero, List.getElem?_cons_succ, ]; exact Is.mk _) ?_
    repeat' (first
      | (refine sw_seq ?_) | (refine sw_block ?_) | (refine sw_skip ?_) | (refine sw_ret ?_) | (refine sw_exit ?_)
      | (refine n_then ?_) | (refine r_then ?_) | (refine e_then ?_) | (refine n_block ?_) | (refine r_block ?_) | (refine e_block ?_) | (refine o_block rfl ?_)
      | (refine sw_run (by simp [-getElem?_pos, List.getElem?_cons_zero, List.getElem?_cons_succ, ]; exact Is.mk _) ?_)
      | (refine sw_true (by simp [-getElem?_pos, List.getElem?_cons_zero, List.getElem?_cons_succ, ]; exact Is.mk _) ?_) | (refine sw_false (by simp [-getElem?_pos, List.getElem?_cons_zero, List.getElem?_cons_succ, ]; exact Is.mk _) ?_)
      | (refine sw_yes (by simp; exact Is.mk _) (by assumption) ?_)
      | (refine sw_no (by simp; exact Is.mk _) (by assumption) ?_)
      | (refine sw_if (by simp; exact Is.mk _) (fun _ => ?_) (fun _ => ?_)))
    exact end_val (by simp; exact Is.mk _) (by simp [hn0, hn]) ⟨rfl, rfl⟩
  · obtain ⟨hgs, hops, _, hg100⟩ := small_to (m := 100) h1 (by omega)
    repeat (refine ss_op rfl (by simp [-getElem?_pos, List.getElem?_cons_zero, List.getElem?_cons_succ, ]; exact Is.mk _) ?_)
    refine ss_pure_g rfl (by simp [-getElem?_pos, List.getElem?_cons_zero, List.getElem?_cons_succ, ]; exact Is.mk _) rfl (by simp; exact Is.mk _) (by kernel_rfl) (small_spec q hs ot 100) ?_
    cases h2 : smallC q hs ot 100
    · refine ss_all (by simp [-getElem?_pos, List.getElem?_cons_zero, List.getElem?_cons_succ, ]; exact Is.mk _) ?_
      repeat' (first
        | (refine sw_seq ?_) | (refine sw_block ?_) | (refine sw_skip ?_) | (refine sw_ret ?_) | (refine sw_exit ?_)
        | (refine n_then ?_) | (refine r_then ?_) | (refine e_then ?_) | (refine n_block ?_) | (refine r_block ?_) | (refine e_block ?_) | (refine o_block rfl ?_)
        | (refine sw_run (by simp [-getElem?_pos, List.getElem?_cons_zero, List.getElem?_cons_succ, ]; exact Is.mk _) ?_)
        | (refine sw_true (by simp [-getElem?_pos, List.getElem?_cons_zero, List.getElem?_cons_succ, ]; exact Is.mk _) ?_) | (refine sw_false (by simp [-getElem?_pos, List.getElem?_cons_zero, List.getElem?_cons_succ, ]; exact Is.mk _) ?_)
        | (refine sw_yes (by simp; exact Is.mk _) (by assumption) ?_)
        | (refine sw_no (by simp; exact Is.mk _) (by assumption) ?_)
        | (refine sw_if (by simp; exact Is.mk _) (fun _ => ?_) (fun _ => ?_)))
      exact end_val (by simp; exact Is.mk _) (by simp [hn0, hn]) ⟨rfl, rfl⟩
    · obtain ⟨hhs, hopt, _, hh100⟩ := small_to (m := 100) h2 (by omega)
      by_cases hpq : p = q
      · subst hpq
        have hgl := hgs.lt
        have hsum : Small (gs.length + hs.length) := Small.mk (by omega)
        have hbops := both_ops hops hopt
        have hbl := both_len gs hs
        refine ss_all (by simp [-getElem?_pos, List.getElem?_cons_zero, List.getElem?_cons_succ, ]; exact Is.mk _) ?_
        repeat' (first
          | (refine sw_seq ?_) | (refine sw_block ?_) | (refine sw_skip ?_) | (refine sw_ret ?_) | (refine sw_exit ?_)
          | (refine n_then ?_) | (refine r_then ?_) | (refine e_then ?_) | (refine n_block ?_) | (refine r_block ?_) | (refine e_block ?_) | (refine o_block rfl ?_)
          | (refine sw_run (by simp [-getElem?_pos, List.getElem?_cons_zero, List.getElem?_cons_succ, ]; exact Is.mk _) ?_)
          | (refine sw_true (by simp [-getElem?_pos, List.getElem?_cons_zero, List.getElem?_cons_succ, ]; exact Is.mk _) ?_) | (refine sw_false (by simp [-getElem?_pos, List.getElem?_cons_zero, List.getElem?_cons_succ, ]; exact Is.mk _) ?_)
          | (refine sw_yes (by simp; exact Is.mk _) (by assumption) ?_)
          | (refine sw_no (by simp; exact Is.mk _) (by assumption) ?_)
          | (refine sw_if (by simp; exact Is.mk _) (fun _ => ?_) (fun _ => ?_)))
        refine sw_draw (us := [(0,2),(1,2),(2,3),(2,4),(0,5),(1,5),(2,6),(5,6),(2,7),(5,7),(0,9),(1,9),(2,9),(3,9),(4,9),(5,9),(6,9),(7,9),(8,9)]) mixed (by kernel_rfl) (by kernel_rfl) (ds_all (by simp [hgs, -getElem?_pos, List.getElem?_cons_zero, List.getElem?_cons_succ]; exact Is.mk _) (by simp [disAll, EDisj, wids, rids]) ?_)
        repeat' (first
          | (refine sw_seq ?_) | (refine sw_block ?_) | (refine sw_skip ?_) | (refine sw_ret ?_) | (refine sw_exit ?_)
          | (refine n_then ?_) | (refine r_then ?_) | (refine e_then ?_) | (refine n_block ?_) | (refine r_block ?_) | (refine e_block ?_) | (refine o_block rfl ?_)
          | (refine sw_run (by simp [-getElem?_pos, List.getElem?_cons_zero, List.getElem?_cons_succ, ]; exact Is.mk _) ?_)
          | (refine sw_true (by simp [-getElem?_pos, List.getElem?_cons_zero, List.getElem?_cons_succ, ]; exact Is.mk _) ?_) | (refine sw_false (by simp [-getElem?_pos, List.getElem?_cons_zero, List.getElem?_cons_succ, ]; exact Is.mk _) ?_)
          | (refine sw_yes (by simp; exact Is.mk _) (by assumption) ?_)
          | (refine sw_no (by simp; exact Is.mk _) (by assumption) ?_)
          | (refine sw_if (by simp; exact Is.mk _) (fun _ => ?_) (fun _ => ?_)))
        refine sw_loopI (α := Nat × List Gate) (fun x => [(2, .ptr n 0 0 0), (3, .ptr (n + 1) 0 0 0), (5, ai gs.length), (6, .ptr (n + 4) 0 0 0), (7, ai x.1)])
          (fun x => [(n + 4, bothB n (x.1 + 1) p os x.2.length), (n + 2, gateRow (x.1 + 1) x.2), (n + 1, circB p hs ot), (n, circB p gs os)]) (fun _ => n + 5)
          (fun x => x.1 ≤ hs.length ∧ x.2 = gs ++ (hs.take x.1).map (shiftG gs.length)) (fun x => hs.length - x.1) (0, gs) (by simp) ?_ ?_ ?_
        · intro _
          exact weak_cut_hp (by simp) (by simp [convE_gts]) (by simp)
        · intro x
          exact fresh_of hF (by omega) (by simp)
        · rintro ⟨i, bs⟩ ⟨hi, hbs⟩
          simp only at hi hbs ⊢
          have hbsl : bs.length = gs.length + i := by rw [hbs]; simp; omega
          by_cases hlt : i < hs.length
          · obtain ⟨g, hg⟩ := get_lt hlt
            have hw := wrap_succ hlt hhs
            have hsm : Small (bs.length + 1) := Small.mk (by omega)
            have hnx : bs ++ [shiftG gs.length g] = gs ++ (hs.take (i + 1)).map (shiftG gs.length) := by rw [hbs, take_snoc hg]; simp
            have hnl : (bs ++ [shiftG gs.length g]).length = bs.length + 1 := by simp
            have hnm := hopt i g hg
            by_cases h346 : g.kind = 3 ∨ g.kind = 4 ∨ g.kind = 6
            · have ha : IntKind.i64.wrap (g.a + gs.length) = g.a + gs.length := i64_in (by have := hnm g.a (by unfold namedL; rw [if_pos h346]; simp); omega)
              have hb : IntKind.i64.wrap (g.b + gs.length) = g.b + gs.length := i64_in (by have := hnm g.b (by unfold namedL; rw [if_pos h346]; simp); omega)
              have hsg : shiftG gs.length g = ⟨g.kind, g.frm, g.a + gs.length, g.b + gs.length, g.k⟩ := by unfold shiftG; rw [if_pos h346]
              have happ := gates_app bs (shiftG gs.length g)
              rw [hsg] at happ hnx hnl
              by_cases c3 : g.kind = 3
              · repeat' (first
                  | (refine sw_seq ?_) | (refine sw_block ?_) | (refine sw_skip ?_) | (refine sw_ret ?_) | (refine sw_exit ?_)
                  | (refine n_then ?_) | (refine r_then ?_) | (refine e_then ?_) | (refine n_block ?_) | (refine r_block ?_) | (refine e_block ?_) | (refine o_block rfl ?_)
                  | (refine sw_run (by simp [-getElem?_pos, List.getElem?_cons_zero, List.getElem?_cons_succ, hlt, hg, gateC, c3, ha, hb, hw, hsm]; exact Is.mk _) ?_)
                  | (refine sw_true (by simp [-getElem?_pos, List.getElem?_cons_zero, List.getElem?_cons_succ, hlt, hg, gateC, c3, ha, hb, hw, hsm]; exact Is.mk _) ?_) | (refine sw_false (by simp [-getElem?_pos, List.getElem?_cons_zero, List.getElem?_cons_succ, hlt, hg, gateC, c3, ha, hb, hw, hsm]; exact Is.mk _) ?_)
                  | (refine sw_yes (by simp; exact Is.mk _) (by assumption) ?_)
                  | (refine sw_no (by simp; exact Is.mk _) (by assumption) ?_)
                  | (refine sw_if (by simp; exact Is.mk _) (fun _ => ?_) (fun _ => ?_)))
                rw [c3] at happ hnx hnl
                exact ⟨(i + 1, bs ++ [⟨3, g.frm, g.a + gs.length, g.b + gs.length, g.k⟩]), ⟨by simp only; omega, hnx⟩, by simp only; omega, weak_cut_hp (by simp) (by simp [gateC, convE_gts, convE_app_self]) (by simp [hn, hn0])⟩
              · by_cases c4 : g.kind = 4
                · repeat' (first
                    | (refine sw_seq ?_) | (refine sw_block ?_) | (refine sw_skip ?_) | (refine sw_ret ?_) | (refine sw_exit ?_)
                    | (refine n_then ?_) | (refine r_then ?_) | (refine e_then ?_) | (refine n_block ?_) | (refine r_block ?_) | (refine e_block ?_) | (refine o_block rfl ?_)
                    | (refine sw_run (by simp [-getElem?_pos, List.getElem?_cons_zero, List.getElem?_cons_succ, hlt, hg, gateC, c4, ha, hb, hw, hsm]; exact Is.mk _) ?_)
                    | (refine sw_true (by simp [-getElem?_pos, List.getElem?_cons_zero, List.getElem?_cons_succ, hlt, hg, gateC, c4, ha, hb, hw, hsm]; exact Is.mk _) ?_) | (refine sw_false (by simp [-getElem?_pos, List.getElem?_cons_zero, List.getElem?_cons_succ, hlt, hg, gateC, c4, ha, hb, hw, hsm]; exact Is.mk _) ?_)
                    | (refine sw_yes (by simp; exact Is.mk _) (by assumption) ?_)
                    | (refine sw_no (by simp; exact Is.mk _) (by assumption) ?_)
                    | (refine sw_if (by simp; exact Is.mk _) (fun _ => ?_) (fun _ => ?_)))
                  rw [c4] at happ hnx hnl
                  exact ⟨(i + 1, bs ++ [⟨4, g.frm, g.a + gs.length, g.b + gs.length, g.k⟩]), ⟨by simp only; omega, hnx⟩, by simp only; omega, weak_cut_hp (by simp) (by simp [gateC, convE_gts, convE_app_self]) (by simp [hn, hn0])⟩
                · have c6 : g.kind = 6 := by omega
                  repeat' (first
                    | (refine sw_seq ?_) | (refine sw_block ?_) | (refine sw_skip ?_) | (refine sw_ret ?_) | (refine sw_exit ?_)
                    | (refine n_then ?_) | (refine r_then ?_) | (refine e_then ?_) | (refine n_block ?_) | (refine r_block ?_) | (refine e_block ?_) | (refine o_block rfl ?_)
                    | (refine sw_run (by simp [-getElem?_pos, List.getElem?_cons_zero, List.getElem?_cons_succ, hlt, hg, gateC, c6, ha, hb, hw, hsm]; exact Is.mk _) ?_)
                    | (refine sw_true (by simp [-getElem?_pos, List.getElem?_cons_zero, List.getElem?_cons_succ, hlt, hg, gateC, c6, ha, hb, hw, hsm]; exact Is.mk _) ?_) | (refine sw_false (by simp [-getElem?_pos, List.getElem?_cons_zero, List.getElem?_cons_succ, hlt, hg, gateC, c6, ha, hb, hw, hsm]; exact Is.mk _) ?_)
                    | (refine sw_yes (by simp; exact Is.mk _) (by assumption) ?_)
                    | (refine sw_no (by simp; exact Is.mk _) (by assumption) ?_)
                    | (refine sw_if (by simp; exact Is.mk _) (fun _ => ?_) (fun _ => ?_)))
                  rw [c6] at happ hnx hnl
                  exact ⟨(i + 1, bs ++ [⟨6, g.frm, g.a + gs.length, g.b + gs.length, g.k⟩]), ⟨by simp only; omega, hnx⟩, by simp only; omega, weak_cut_hp (by simp) (by simp [gateC, convE_gts, convE_app_self]) (by simp [hn, hn0])⟩
            · have c3 : ¬ g.kind = 3 := fun e => h346 (.inl e)
              have c4 : ¬ g.kind = 4 := fun e => h346 (.inr (.inl e))
              have c6 : ¬ g.kind = 6 := fun e => h346 (.inr (.inr e))
              by_cases c5 : g.kind = 5
              · have ha : IntKind.i64.wrap (g.a + gs.length) = g.a + gs.length := i64_in (by have := hnm g.a (by unfold namedL; rw [if_neg h346, if_pos c5]; simp); omega)
                have hsg : shiftG gs.length g = ⟨g.kind, g.frm, g.a + gs.length, g.b, g.k⟩ := by unfold shiftG; rw [if_neg h346, if_pos c5]
                have happ := gates_app bs (shiftG gs.length g)
                rw [hsg] at happ hnx hnl
                repeat' (first
                  | (refine sw_seq ?_) | (refine sw_block ?_) | (refine sw_skip ?_) | (refine sw_ret ?_) | (refine sw_exit ?_)
                  | (refine n_then ?_) | (refine r_then ?_) | (refine e_then ?_) | (refine n_block ?_) | (refine r_block ?_) | (refine e_block ?_) | (refine o_block rfl ?_)
                  | (refine sw_run (by simp [-getElem?_pos, List.getElem?_cons_zero, List.getElem?_cons_succ, hlt, hg, gateC, c5, ha, hw, hsm]; exact Is.mk _) ?_)
                  | (refine sw_true (by simp [-getElem?_pos, List.getElem?_cons_zero, List.getElem?_cons_succ, hlt, hg, gateC, c5, ha, hw, hsm]; exact Is.mk _) ?_) | (refine sw_false (by simp [-getElem?_pos, List.getElem?_cons_zero, List.getElem?_cons_succ, hlt, hg, gateC, c5, ha, hw, hsm]; exact Is.mk _) ?_)
                  | (refine sw_yes (by simp; exact Is.mk _) (by assumption) ?_)
                  | (refine sw_no (by simp; exact Is.mk _) (by assumption) ?_)
                  | (refine sw_if (by simp; exact Is.mk _) (fun _ => ?_) (fun _ => ?_)))
                rw [c5] at happ hnx hnl
                exact ⟨(i + 1, bs ++ [⟨5, g.frm, g.a + gs.length, g.b, g.k⟩]), ⟨by simp only; omega, hnx⟩, by simp only; omega, weak_cut_hp (by simp) (by simp [gateC, convE_gts, convE_app_self]) (by simp [hn, hn0])⟩
              · have hsg : shiftG gs.length g = g := by unfold shiftG; rw [if_neg h346, if_neg c5]
                have happ := gates_app bs (shiftG gs.length g)
                rw [hsg] at happ hnx hnl
                repeat' (first
                  | (refine sw_seq ?_) | (refine sw_block ?_) | (refine sw_skip ?_) | (refine sw_ret ?_) | (refine sw_exit ?_)
                  | (refine n_then ?_) | (refine r_then ?_) | (refine e_then ?_) | (refine n_block ?_) | (refine r_block ?_) | (refine e_block ?_) | (refine o_block rfl ?_)
                  | (refine sw_run (by simp [-getElem?_pos, List.getElem?_cons_zero, List.getElem?_cons_succ, hlt, hg, gateC, c3, c4, c5, c6, hw, hsm]; exact Is.mk _) ?_)
                  | (refine sw_true (by simp [-getElem?_pos, List.getElem?_cons_zero, List.getElem?_cons_succ, hlt, hg, gateC, c3, c4, c5, c6, hw, hsm]; exact Is.mk _) ?_) | (refine sw_false (by simp [-getElem?_pos, List.getElem?_cons_zero, List.getElem?_cons_succ, hlt, hg, gateC, c3, c4, c5, c6, hw, hsm]; exact Is.mk _) ?_)
                  | (refine sw_yes (by simp; exact Is.mk _) (by assumption) ?_)
                  | (refine sw_no (by simp; exact Is.mk _) (by assumption) ?_)
                  | (refine sw_if (by simp; exact Is.mk _) (fun _ => ?_) (fun _ => ?_)))
                exact ⟨(i + 1, bs ++ [g]), ⟨by simp only; omega, hnx⟩, by simp only; omega, weak_cut_hp (by simp) (by simp [gateC, convE_gts, convE_app_self]) (by simp [hn, hn0])⟩
          · obtain rfl : i = hs.length := by omega
            rw [List.take_length] at hbs
            have hbs : bs = bothG gs hs := hbs
            subst hbs
            have hdep := depsOk_of hops hgs
            have hdept := depsOk_of hopt hhs
            have hal : (newS gs).length ≤ gs.length := newS_length hdep
            have hbl2 : (newS hs).length ≤ hs.length := newS_length hdept
            have has : Small (newS gs).length := Small.mk (by omega)
            have hbs2 : Small (newS hs).length := Small.mk (by omega)
            have hsel : ∀ (gs : List Gate) (dp : List Int) (d i : Nat), (selFrom dp d i gs).length ≤ gs.length := by
              intro gs dp d
              induction gs with
              | nil => intro i; simp [selFrom]
              | cons g gs ih => intro i; have := ih (i + 1); simp only [selFrom]; split <;> simp <;> omega
            have hga : ∀ d, ((newS gs).getD d []).length ≤ 100 := fun d => by rw [newS_getD hops hgs]; exact Nat.le_trans (hsel _ _ _ _) hg100
            have hgb : ∀ d, ((newS hs).getD d []).length ≤ 100 := fun d => by rw [newS_getD hopt hhs]; exact Nat.le_trans (hsel _ _ _ _) hh100
            have hgm : ∀ d, ∀ x ∈ (newS hs).getD d [], IntKind.i64.wrap (x + gs.length) = x + gs.length := fun d x hx => by
              rw [newS_getD hopt hhs] at hx
              obtain ⟨j, g, hg, _, e, _⟩ := selFrom_mem hx
              have := (List.getElem?_eq_some_iff.1 hg).1
              rw [e]
              exact i64_in (by omega)
            repeat' (first
              | (refine sw_seq ?_) | (refine sw_block ?_) | (refine sw_skip ?_) | (refine sw_ret ?_) | (refine sw_exit ?_)
              | (refine n_then ?_) | (refine r_then ?_) | (refine e_then ?_) | (refine n_block ?_) | (refine r_block ?_) | (refine e_block ?_) | (refine o_block rfl ?_)
              | (refine sw_run (by simp [-getElem?_pos, List.getElem?_cons_zero, List.getElem?_cons_succ, ]; exact Is.mk _) ?_)
              | (refine sw_true (by simp [-getElem?_pos, List.getElem?_cons_zero, List.getElem?_cons_succ, ]; exact Is.mk _) ?_) | (refine sw_false (by simp [-getElem?_pos, List.getElem?_cons_zero, List.getElem?_cons_succ, ]; exact Is.mk _) ?_)
              | (refine sw_yes (by simp; exact Is.mk _) (by assumption) ?_)
              | (refine sw_no (by simp; exact Is.mk _) (by assumption) ?_)
              | (refine sw_if (by simp; exact Is.mk _) (fun _ => ?_) (fun _ => ?_)))
            refine sw_ss ?_
            repeat (refine ss_op rfl (by simp [-getElem?_pos, List.getElem?_cons_zero, List.getElem?_cons_succ, ]; exact Is.mk _) ?_)
            refine ss_pure rfl rfl rfl (by simp [-getElem?_pos, List.getElem?_cons_zero, List.getElem?_cons_succ]; exact Is.mk _) (by kernel_rfl) (new_spec p gs os hgs hops hdep) ?_
            refine ss_all (by simp [-getElem?_pos, List.getElem?_cons_zero, List.getElem?_cons_succ, ]; exact Is.mk _) ?_
            repeat' (first
              | (refine sw_seq ?_) | (refine sw_block ?_) | (refine sw_skip ?_) | (refine sw_ret ?_) | (refine sw_exit ?_)
              | (refine n_then ?_) | (refine r_then ?_) | (refine e_then ?_) | (refine n_block ?_) | (refine r_block ?_) | (refine e_block ?_) | (refine o_block rfl ?_)
              | (refine sw_run (by simp [-getElem?_pos, List.getElem?_cons_zero, List.getElem?_cons_succ, ]; exact Is.mk _) ?_)
              | (refine sw_true (by simp [-getElem?_pos, List.getElem?_cons_zero, List.getElem?_cons_succ, ]; exact Is.mk _) ?_) | (refine sw_false (by simp [-getElem?_pos, List.getElem?_cons_zero, List.getElem?_cons_succ, ]; exact Is.mk _) ?_)
              | (refine sw_yes (by simp; exact Is.mk _) (by assumption) ?_)
              | (refine sw_no (by simp; exact Is.mk _) (by assumption) ?_)
              | (refine sw_if (by simp; exact Is.mk _) (fun _ => ?_) (fun _ => ?_)))
            refine sw_ss ?_
            repeat (refine ss_op rfl (by simp [-getElem?_pos, List.getElem?_cons_zero, List.getElem?_cons_succ, ]; exact Is.mk _) ?_)
            refine ss_pure rfl rfl rfl (by simp [-getElem?_pos, List.getElem?_cons_zero, List.getElem?_cons_succ]; exact Is.mk _) (by kernel_rfl) (new_spec p hs ot hhs hopt hdept) ?_
            refine ss_all (by simp [-getElem?_pos, List.getElem?_cons_zero, List.getElem?_cons_succ, ]; exact Is.mk _) ?_
            repeat' (first
              | (refine sw_seq ?_) | (refine sw_block ?_) | (refine sw_skip ?_) | (refine sw_ret ?_) | (refine sw_exit ?_)
              | (refine n_then ?_) | (refine r_then ?_) | (refine e_then ?_) | (refine n_block ?_) | (refine r_block ?_) | (refine e_block ?_) | (refine o_block rfl ?_)
              | (refine sw_run (by simp [-getElem?_pos, List.getElem?_cons_zero, List.getElem?_cons_succ, ]; exact Is.mk _) ?_)
              | (refine sw_true (by simp [-getElem?_pos, List.getElem?_cons_zero, List.getElem?_cons_succ, ]; exact Is.mk _) ?_) | (refine sw_false (by simp [-getElem?_pos, List.getElem?_cons_zero, List.getElem?_cons_succ, ]; exact Is.mk _) ?_)
              | (refine sw_yes (by simp; exact Is.mk _) (by assumption) ?_)
              | (refine sw_no (by simp; exact Is.mk _) (by assumption) ?_)
              | (refine sw_if (by simp; exact Is.mk _) (fun _ => ?_) (fun _ => ?_)))
            generalize hA : newS gs = A at *
            generalize hB : newS hs = B at *
            refine sw_loopI (α := Nat) (fun x => wT n gs.length x) (fun x => wF n (hs.length + 1) p p gs hs (bothG gs hs) os ot A B (wantK A B gs.length x)) (fun _ => n + 9)
              (fun x => x ≤ max A.length B.length) (fun x => max A.length B.length - x) 0 (Nat.zero_le _) ?_ ?_ ?_
            · intro _
              refine Weak.trans (weak_cut_hp (t' := wT n gs.length 0) (L' := [(n + 7, .row 0 29 1 [[.p (.v (.slice none 0 0))]]), (n + 6, schedB B), (n + 5, schedB A), (n + 4, bothB n (hs.length + 1) p os (bothG gs hs).length), (n + 2, gateRow (hs.length + 1) (bothG gs hs)), (n + 1, circB p hs ot), (n, circB p gs os)]) (by simp) (by simp [convE_gts]) (by simp [hn])) ?_
              refine weak_adopt_hp (id := n + 8) (sz := 1) (e := 24) (by simp [hn]) (by simp [lays, pcells, wantK]) (by simp [conv, convT]) ?_ (by simp)
              simp [convE, convL, conv, nilA]
            · intro x
              exact fresh_of hF (by omega) (by simp)
            · intro k hk
              by_cases hlt : k < max A.length B.length
              · have hw : IntKind.i64.wrap ((k : Int) + 1) = (k : Int) + 1 := i64_in (by omega)
                have hsmk : Small (k + 1) := Small.mk (by omega)
                refine sw_seq ?_
                refine sw_meet (fun _ : Unit => wT n gs.length k) (fun _ => wF n (hs.length + 1) p p gs hs (bothG gs hs) os ot A B (wantK A B gs.length k)) (fun _ => n + 9) (fun _ => True) (fun _ => fresh_of hF (by omega) (by simp)) ?_ ?_
                · by_cases ca : k < A.length
                  · repeat' (first
                      | (refine sw_seq ?_) | (refine sw_block ?_) | (refine sw_skip ?_) | (refine sw_ret ?_) | (refine sw_exit ?_)
                      | (refine n_then ?_) | (refine r_then ?_) | (refine e_then ?_) | (refine n_block ?_) | (refine r_block ?_) | (refine e_block ?_) | (refine o_block rfl ?_)
                      | (refine sw_run (by simp [-getElem?_pos, List.getElem?_cons_zero, List.getElem?_cons_succ, ca]; exact Is.mk _) ?_)
                      | (refine sw_true (by simp [-getElem?_pos, List.getElem?_cons_zero, List.getElem?_cons_succ, ca]; exact Is.mk _) ?_) | (refine sw_false (by simp [-getElem?_pos, List.getElem?_cons_zero, List.getElem?_cons_succ, ca]; exact Is.mk _) ?_)
                      | (refine sw_yes (by simp; exact Is.mk _) (by assumption) ?_)
                      | (refine sw_no (by simp; exact Is.mk _) (by assumption) ?_)
                      | (refine sw_if (by simp; exact Is.mk _) (fun _ => ?_) (fun _ => ?_)))
                    exact ⟨(), trivial, weak_cut_hp (by simp) (by simp [convE_gts, convE_ps]) (by simp)⟩
                  · have cb : k < B.length := by omega
                    repeat' (first
                      | (refine sw_seq ?_) | (refine sw_block ?_) | (refine sw_skip ?_) | (refine sw_ret ?_) | (refine sw_exit ?_)
                      | (refine n_then ?_) | (refine r_then ?_) | (refine e_then ?_) | (refine n_block ?_) | (refine r_block ?_) | (refine e_block ?_) | (refine o_block rfl ?_)
                      | (refine sw_run (by simp [-getElem?_pos, List.getElem?_cons_zero, List.getElem?_cons_succ, ca, cb]; exact Is.mk _) ?_)
                      | (refine sw_true (by simp [-getElem?_pos, List.getElem?_cons_zero, List.getElem?_cons_succ, ca, cb]; exact Is.mk _) ?_) | (refine sw_false (by simp [-getElem?_pos, List.getElem?_cons_zero, List.getElem?_cons_succ, ca, cb]; exact Is.mk _) ?_)
                      | (refine sw_yes (by simp; exact Is.mk _) (by assumption) ?_)
                      | (refine sw_no (by simp; exact Is.mk _) (by assumption) ?_)
                      | (refine sw_if (by simp; exact Is.mk _) (fun _ => ?_) (fun _ => ?_)))
                    exact ⟨(), trivial, weak_cut_hp (by simp) (by simp [convE_gts, convE_ps]) (by simp)⟩
                · intro _ _
                  repeat' (first
                    | (refine sw_seq ?_) | (refine sw_block ?_) | (refine sw_skip ?_)
                    | (refine n_then ?_) | (refine r_then ?_) | (refine e_then ?_) | (refine n_block ?_) | (refine r_block ?_) | (refine e_block ?_) | (refine o_block rfl ?_)
                    | (refine sw_run (by simp [-getElem?_pos, List.getElem?_cons_zero, List.getElem?_cons_succ, ]; exact Is.mk _) ?_))
                  refine sw_meet (fun z : List Int => wT n gs.length k ++ [(13, .own (n + 9) 0 0 z.length)]) (fun z => (n + 9, .row 0 3 1 (rints z)) :: wF n (hs.length + 1) p p gs hs (bothG gs hs) os ot A B (wantK A B gs.length k)) (fun _ => n + 10) (fun z => z = A.getD k []) (fun _ => fresh_of hF (by omega) (by simp)) ?_ ?_
                  · by_cases ca : k < A.length
                    · obtain ⟨x, hx⟩ := get_lt ca
                      have hxD : A.getD k [] = x := by rw [List.getD_eq_getElem?_getD, hx]; rfl
                      have hxl : x.length ≤ 100 := by have := hga k; rwa [hxD] at this
                      have hxs : Small x.length := Small.mk (by omega)
                      repeat' (first
                        | (refine sw_seq ?_) | (refine sw_block ?_) | (refine sw_skip ?_) | (refine sw_ret ?_) | (refine sw_exit ?_)
                        | (refine n_then ?_) | (refine r_then ?_) | (refine e_then ?_) | (refine n_block ?_) | (refine r_block ?_) | (refine e_block ?_) | (refine o_block rfl ?_)
                        | (refine sw_run (by simp [-getElem?_pos, List.getElem?_cons_zero, List.getElem?_cons_succ, ca, hx, hxs]; exact Is.mk _) ?_)
                        | (refine sw_true (by simp [-getElem?_pos, List.getElem?_cons_zero, List.getElem?_cons_succ, ca, hx, hxs]; exact Is.mk _) ?_) | (refine sw_false (by simp [-getElem?_pos, List.getElem?_cons_zero, List.getElem?_cons_succ, ca, hx, hxs]; exact Is.mk _) ?_)
                        | (refine sw_yes (by simp; exact Is.mk _) (by assumption) ?_)
                        | (refine sw_no (by simp; exact Is.mk _) (by assumption) ?_)
                        | (refine sw_if (by simp; exact Is.mk _) (fun _ => ?_) (fun _ => ?_)))
                      exact ⟨x, hxD.symm, weak_cut_hp (by simp) (by simp [convE_gts, convE_ps]) (by simp [hn, hn0])⟩
                    · have hxD : A.getD k [] = [] := by rw [List.getD_eq_getElem?_getD, List.getElem?_eq_none (by omega)]; rfl
                      repeat' (first
                        | (refine sw_seq ?_) | (refine sw_block ?_) | (refine sw_skip ?_) | (refine sw_ret ?_) | (refine sw_exit ?_)
                        | (refine n_then ?_) | (refine r_then ?_) | (refine e_then ?_) | (refine n_block ?_) | (refine r_block ?_) | (refine e_block ?_) | (refine o_block rfl ?_)
                        | (refine sw_run (by simp [-getElem?_pos, List.getElem?_cons_zero, List.getElem?_cons_succ, ca]; exact Is.mk _) ?_)
                        | (refine sw_true (by simp [-getElem?_pos, List.getElem?_cons_zero, List.getElem?_cons_succ, ca]; exact Is.mk _) ?_) | (refine sw_false (by simp [-getElem?_pos, List.getElem?_cons_zero, List.getElem?_cons_succ, ca]; exact Is.mk _) ?_)
                        | (refine sw_yes (by simp; exact Is.mk _) (by assumption) ?_)
                        | (refine sw_no (by simp; exact Is.mk _) (by assumption) ?_)
                        | (refine sw_if (by simp; exact Is.mk _) (fun _ => ?_) (fun _ => ?_)))
                      refine ⟨[], hxD.symm, ?_⟩
                      refine weak_adopt_hp (id := n + 9) (sz := 1) (e := 3) (by simp [hn]) (by simp [ints, pcells]) (by simp [conv, convT, nilA]) ?_ (by simp)
                      simp
                  · rintro x hxD
                    have hxl : x.length ≤ 100 := by have := hga k; rwa [← hxD] at this
                    obtain ⟨y, hyD⟩ : ∃ y, y = B.getD k [] := ⟨_, rfl⟩
                    have hyl : y.length ≤ 100 := by have := hgb k; rwa [← hyD] at this
                    have hyy : k < B.length → B[k]? = some y := fun h => by
                      obtain ⟨y', hy'⟩ := get_lt h
                      rw [List.getD_eq_getElem?_getD, hy'] at hyD
                      rw [hy', hyD]; rfl
                    repeat' (first
                      | (refine sw_seq ?_) | (refine sw_block ?_) | (refine sw_skip ?_) | (refine sw_ret ?_) | (refine sw_exit ?_)
                      | (refine n_then ?_) | (refine r_then ?_) | (refine e_then ?_) | (refine n_block ?_) | (refine r_block ?_) | (refine e_block ?_) | (refine o_block rfl ?_)
                      | (refine sw_run (by simp [-getElem?_pos, List.getElem?_cons_zero, List.getElem?_cons_succ, ]; exact Is.mk _) ?_)
                      | (refine sw_true (by simp [-getElem?_pos, List.getElem?_cons_zero, List.getElem?_cons_succ, ]; exact Is.mk _) ?_) | (refine sw_false (by simp [-getElem?_pos, List.getElem?_cons_zero, List.getElem?_cons_succ, ]; exact Is.mk _) ?_)
                      | (refine sw_yes (by simp; exact Is.mk _) (by assumption) ?_)
                      | (refine sw_no (by simp; exact Is.mk _) (by assumption) ?_)
                      | (refine sw_if (by simp; exact Is.mk _) (fun _ => ?_) (fun _ => ?_)))
                    refine sw_loopI (α := Nat × List Int) (fun z => wT n gs.length k ++ [(13, .own (n + 9) z.1 0 z.2.length), (14, ai z.1)]) (fun z => (n + 9, .row z.1 3 1 (rints z.2)) :: wF n (hs.length + 1) p p gs hs (bothG gs hs) os ot A B (wantK A B gs.length k)) (fun _ => n + 10)
                      (fun z => z.1 ≤ y.length ∧ z.2 = x ++ (y.take z.1).map fun q => q + (gs.length : Int)) (fun z => y.length - z.1) (0, x) (by simp) ?_ ?_ ?_
                    · intro _
                      exact weak_cut_hp (by simp) (by simp [convE_ps, convE_gts]) (by simp [hn, hn0])
                    · intro x
                      exact fresh_of hF (by omega) (by simp)
                    · rintro ⟨j, lay⟩ ⟨hj, hlay⟩
                      simp only at hj hlay ⊢
                      have hll : lay.length = x.length + j := by rw [hlay]; simp; omega
                      by_cases hjl : j < y.length
                      · obtain ⟨v, hv⟩ := get_lt hjl
                        have cb : k < B.length := by
                          rcases Nat.lt_or_ge k B.length with h | h
                          · exact h
                          · rw [List.getD_eq_getElem?_getD, List.getElem?_eq_none h] at hyD
                            simp at hyD
                            rw [hyD] at hjl
                            simp at hjl
                        have hy := hyy cb
                        have hsm : Small (lay.length + 1) := Small.mk (by omega)
                        have hwj : IntKind.i64.wrap ((j : Int) + 1) = (j : Int) + 1 := i64_in (by omega)
                        have hwv := hgm k v (by rw [← hyD]; exact List.mem_of_getElem? hv)
                        repeat' (first
                          | (refine sw_seq ?_) | (refine sw_block ?_) | (refine sw_skip ?_) | (refine sw_ret ?_) | (refine sw_exit ?_)
                          | (refine n_then ?_) | (refine r_then ?_) | (refine e_then ?_) | (refine n_block ?_) | (refine r_block ?_) | (refine e_block ?_) | (refine o_block rfl ?_)
                          | (refine sw_run (by simp [-getElem?_pos, List.getElem?_cons_zero, List.getElem?_cons_succ, cb, hy, hjl, hv, hsm, hwj, hwv]; exact Is.mk _) ?_)
                          | (refine sw_true (by simp [-getElem?_pos, List.getElem?_cons_zero, List.getElem?_cons_succ, cb, hy, hjl, hv, hsm, hwj, hwv]; exact Is.mk _) ?_) | (refine sw_false (by simp [-getElem?_pos, List.getElem?_cons_zero, List.getElem?_cons_succ, cb, hy, hjl, hv, hsm, hwj, hwv]; exact Is.mk _) ?_)
                          | (refine sw_yes (by simp; exact Is.mk _) (by assumption) ?_)
                          | (refine sw_no (by simp; exact Is.mk _) (by assumption) ?_)
                          | (refine sw_if (by simp; exact Is.mk _) (fun _ => ?_) (fun _ => ?_)))
                        exact ⟨(j + 1, lay ++ [v + gs.length]), ⟨by simp only; omega, by rw [hlay, take_snoc hv]; simp⟩, by simp only; omega, weak_cut_hp (by simp) (by simp [rints_app, convE_ps, convE_gts]) (by simp [hn, hn0])⟩
                      · obtain rfl : j = y.length := by omega
                        rw [List.take_length] at hlay
                        have hnk : wantK A B gs.length k ++ [lay] = wantK A B gs.length (k + 1) := by rw [← wantK_succ, ← hxD, ← hyD, hlay]
                        by_cases cb : k < B.length
                        all_goals
                          repeat' (first
                            | (refine sw_seq ?_) | (refine sw_block ?_) | (refine sw_skip ?_) | (refine sw_ret ?_) | (refine sw_exit ?_)
                            | (refine n_then ?_) | (refine r_then ?_) | (refine e_then ?_) | (refine n_block ?_) | (refine r_block ?_) | (refine e_block ?_) | (refine o_block rfl ?_)
                            | (refine sw_run (by simp [-getElem?_pos, List.getElem?_cons_zero, List.getElem?_cons_succ, cb, hyy, hsmk, hw]; exact Is.mk _) ?_)
                            | (refine sw_true (by simp [-getElem?_pos, List.getElem?_cons_zero, List.getElem?_cons_succ, cb, hyy, hsmk, hw]; exact Is.mk _) ?_) | (refine sw_false (by simp [-getElem?_pos, List.getElem?_cons_zero, List.getElem?_cons_succ, cb, hyy, hsmk, hw]; exact Is.mk _) ?_)
                            | (refine sw_yes (by simp; exact Is.mk _) (by assumption) ?_)
                            | (refine sw_no (by simp; exact Is.mk _) (by assumption) ?_)
                            | (refine sw_if (by simp; exact Is.mk _) (fun _ => ?_) (fun _ => ?_)))
                          refine ⟨k + 1, by omega, by omega, ?_⟩
                          refine weak_freeze_hp (id := n + 9) (ver := y.length) (sz := 1) (e := 3) (es := ints lay) (by simp) (by simp) (by simp [hn]) ?_ (by simp [hn, hn0])
                          intro q hq
                          simp only [List.mem_cons, List.not_mem_nil, or_false] at hq
                          rcases hq with rfl | rfl | rfl | rfl | rfl | rfl | rfl | rfl
                          · refine ⟨_, by simp; rfl, by simp, rfl, rfl, ?_⟩
                            rw [← hnk, ← lays_app']
                            refine convE_app (convE_ps _) ?_
                            simp only [convE, convL, conv, frzA_own]
                            exact ⟨⟨.inr (.inl ⟨trivial, trivial, by rw [List.drop_zero, List.take_of_length_le (by simp)]⟩), trivial⟩, trivial⟩
                          · exact ⟨_, by simp; rfl, by simp, rfl, rfl, by simp [convE, convL, conv]⟩
                          · exact ⟨schedB B, by simp, rfl, rfl, rfl, by simp [convE, convL, conv]⟩
                          · exact ⟨schedB A, by simp, rfl, rfl, rfl, by simp [convE, convL, conv]⟩
                          · exact ⟨bothB n (hs.length + 1) p os (bothG gs hs).length, by simp, rfl, rfl, rfl, by simp [convE, convL, conv]⟩
                          · exact ⟨gateRow (hs.length + 1) (bothG gs hs), by simp, rfl, rfl, rfl, convE_ps _⟩
                          · exact ⟨circB p hs ot, by simp, rfl, rfl, rfl, by simp [convE, convL, conv]⟩
                          · exact ⟨circB p gs os, by simp, rfl, rfl, rfl, by simp [convE, convL, conv]⟩
              · obtain rfl : k = max A.length B.length := by omega
                have ca : ¬ max A.length B.length < A.length := by omega
                have cb : ¬ max A.length B.length < B.length := by omega
                have hwant : wantK A B gs.length (max A.length B.length) = newS (bothG gs hs) := by rw [new_both hops hopt hgs hhs hsum, hA, hB]; rfl
                generalize max A.length B.length = k at ca cb hwant
                have hbs3 : Small (bothG gs hs).length := by rw [hbl]; exact hsum
                have hdepb := depsOk_of hbops hbs3
                have htr := both_trip gs hs
                have htb : trip (bothG gs hs) ≤ 200 := by have := excl (bothG gs hs); omega
                have hwt : IntKind.i64.wrap ((trip gs : Int) + (trip hs : Int)) = (trip (bothG gs hs) : Int) := by rw [i64_in (by omega), htr]; simp
                have hnl3 : (newS (bothG gs hs)).length ≤ 200 := by have := newS_length hdepb; omega
                have hsame := same_spec (newS (bothG gs hs)) (newS (bothG gs hs)) (Small.mk (by omega)) (fun x hx => by
                  obtain ⟨d, hd, rfl⟩ := List.getElem_of_mem hx
                  have := newS_getD hbops hbs3 d
                  rw [List.getD_eq_getElem?_getD, List.getElem?_eq_getElem hd] at this
                  have h2 := hsel (bothG gs hs) (dep (bothG gs hs)) (d + 1) 0
                  rw [← this] at h2
                  simp only [Option.getD_some] at h2
                  exact Small.mk (by omega))
                repeat' (first
                  | (refine sw_seq ?_) | (refine sw_block ?_) | (refine sw_skip ?_) | (refine sw_ret ?_) | (refine sw_exit ?_)
                  | (refine n_then ?_) | (refine r_then ?_) | (refine e_then ?_) | (refine n_block ?_) | (refine r_block ?_) | (refine e_block ?_) | (refine o_block rfl ?_)
                  | (refine sw_run (by simp [-getElem?_pos, List.getElem?_cons_zero, List.getElem?_cons_succ, ca, cb]; exact Is.mk _) ?_)
                  | (refine sw_true (by simp [-getElem?_pos, List.getElem?_cons_zero, List.getElem?_cons_succ, ca, cb]; exact Is.mk _) ?_) | (refine sw_false (by simp [-getElem?_pos, List.getElem?_cons_zero, List.getElem?_cons_succ, ca, cb]; exact Is.mk _) ?_)
                  | (refine sw_yes (by simp; exact Is.mk _) (by assumption) ?_)
                  | (refine sw_no (by simp; exact Is.mk _) (by assumption) ?_)
                  | (refine sw_if (by simp; exact Is.mk _) (fun _ => ?_) (fun _ => ?_)))
                refine sw_weak (n' := n + 8) (t' := [(2, .ptr n 0 0 0), (3, .ptr (n + 1) 0 0 0), (6, .ptr (n + 4) 0 0 0), (11, .ptr (n + 7) 0 0 0)]) (L' := [(n + 7, schedB (newS (bothG gs hs))), (n + 4, circB p (bothG gs hs) os), (n + 1, circB p hs ot), (n, circB p gs os)]) ?_ (fresh_of hF (by omega) (by simp)) ?_
                · refine Weak.trans (weak_freeze_hp (t' := [(2, .ptr n 0 0 0), (3, .ptr (n + 1) 0 0 0), (6, .ptr (n + 4) 0 0 0), (11, .ptr (n + 7) 0 0 0)]) (L' := [(n + 7, schedB (newS (bothG gs hs))), (n + 4, bothB n (hs.length + 1) p os (bothG gs hs).length), (n + 2, gateRow (hs.length + 1) (bothG gs hs)), (n + 1, circB p hs ot), (n, circB p gs os)]) (id := n + 8) (ver := k) (sz := 1) (e := 24) (es := lays (wantK A B gs.length k)) (by simp) (by simp) (by simp [hn]) ?_ (by simp [hn, hn0])) ?_
                  · intro q hq
                    simp only [List.mem_cons, List.not_mem_nil, or_false] at hq
                    rcases hq with rfl | rfl | rfl | rfl | rfl
                    · refine ⟨.row 0 29 1 [[.own (n + 8) k 0 k]], by simp, rfl, rfl, rfl, ?_⟩
                      simp only [convE, convL, conv, frzA_own]
                      exact ⟨⟨.inr (.inl ⟨trivial, trivial, by rw [List.drop_zero, List.take_of_length_le (by simp), hwant]⟩), trivial⟩, trivial⟩
                    · exact ⟨bothB n (hs.length + 1) p os (bothG gs hs).length, by simp, rfl, rfl, rfl, by simp [convE, convL, conv]⟩
                    · exact ⟨gateRow (hs.length + 1) (bothG gs hs), by simp, rfl, rfl, rfl, convE_ps _⟩
                    · exact ⟨circB p hs ot, by simp, rfl, rfl, rfl, by simp [convE, convL, conv]⟩
                    · exact ⟨circB p gs os, by simp, rfl, rfl, rfl, by simp [convE, convL, conv]⟩
                  · refine weak_freeze_hp (id := n + 2) (ver := hs.length + 1) (sz := 5) (e := 44) (es := (bothG gs hs).map gateC) (by simp) (by simp) (by simp [hn]) ?_ (by simp [hn, hn0])
                    intro q hq
                    simp only [List.mem_cons, List.not_mem_nil, or_false] at hq
                    rcases hq with rfl | rfl | rfl | rfl
                    · exact ⟨schedB (newS (bothG gs hs)), by simp, rfl, rfl, rfl, by simp [convE, convL, conv]⟩
                    · refine ⟨bothB n (hs.length + 1) p os (bothG gs hs).length, by simp, rfl, rfl, rfl, ?_⟩
                      simp only [convE, convL, conv, frzA_own]
                      exact ⟨⟨by simp, .inr (.inl ⟨trivial, trivial, by rw [List.drop_zero, List.take_of_length_le (by simp)]⟩), by simp, trivial⟩, trivial⟩
                    · exact ⟨circB p hs ot, by simp, rfl, rfl, rfl, by simp [convE, convL, conv]⟩
                    · exact ⟨circB p gs os, by simp, rfl, rfl, rfl, by simp [convE, convL, conv]⟩
                · refine sw_draw (us := [(1,2),(6,7),(6,9),(8,9)]) mixed (by kernel_rfl) (by kernel_rfl) ?_
                  iterate 1 refine ds_op rfl (by simp; exact Is.mk _) ?_
                  refine ds_pure_g rfl (by simp; exact Is.mk _) rfl (by simp; exact Is.mk _) (by kernel_rfl) (new_spec p (bothG gs hs) os hbs3 hbops hdepb) ?_
                  iterate 1 refine ds_op rfl (by simp; exact Is.mk _) ?_
                  refine ds_pure_g rfl (by simp; exact Is.mk _) rfl (by simp; exact Is.mk _) (by kernel_rfl) hsame ?_
                  iterate 2 refine ds_op rfl (by simp; exact Is.mk _) ?_
                  refine ds_pure_g rfl (by simp; exact Is.mk _) rfl (by simp; exact Is.mk _) (by kernel_rfl) (triples_spec p (bothG gs hs) os hbs3) ?_
                  iterate 1 refine ds_op rfl (by simp; exact Is.mk _) ?_
                  refine ds_pure_g rfl (by simp; exact Is.mk _) rfl (by simp; exact Is.mk _) (by kernel_rfl) (triples_spec p gs os hgs) ?_
                  iterate 1 refine ds_op rfl (by simp; exact Is.mk _) ?_
                  refine ds_pure_g rfl (by simp; exact Is.mk _) rfl (by simp; exact Is.mk _) (by kernel_rfl) (triples_spec p hs ot hhs) ?_
                  refine ds_all (by simp [hwt]; exact Is.mk _) (disAll_quiet (by simp)) ?_
                  repeat' (first
                    | (refine sw_seq ?_) | (refine sw_block ?_) | (refine sw_skip ?_) | (refine sw_ret ?_) | (refine sw_exit ?_)
                    | (refine n_then ?_) | (refine r_then ?_) | (refine e_then ?_) | (refine n_block ?_) | (refine r_block ?_) | (refine e_block ?_) | (refine o_block rfl ?_)
                    | (refine sw_run (by simp [-getElem?_pos, List.getElem?_cons_zero, List.getElem?_cons_succ, ]; exact Is.mk _) ?_)
                    | (refine sw_true (by simp [-getElem?_pos, List.getElem?_cons_zero, List.getElem?_cons_succ, ]; exact Is.mk _) ?_) | (refine sw_false (by simp [-getElem?_pos, List.getElem?_cons_zero, List.getElem?_cons_succ, ]; exact Is.mk _) ?_)
                    | (refine sw_yes (by simp; exact Is.mk _) (by assumption) ?_)
                    | (refine sw_no (by simp; exact Is.mk _) (by assumption) ?_)
                    | (refine sw_if (by simp; exact Is.mk _) (fun _ => ?_) (fun _ => ?_)))
                  exact end_val (by simp; exact Is.mk _) (by simp [hn0, hn]) ⟨rfl, by simp⟩
      · refine ss_all (by simp [-getElem?_pos, List.getElem?_cons_zero, List.getElem?_cons_succ, hpq]; exact Is.mk _) ?_
        repeat' (first
          | (refine sw_seq ?_) | (refine sw_block ?_) | (refine sw_skip ?_) | (refine sw_ret ?_) | (refine sw_exit ?_)
          | (refine n_then ?_) | (refine r_then ?_) | (refine e_then ?_) | (refine n_block ?_) | (refine r_block ?_) | (refine e_block ?_) | (refine o_block rfl ?_)
          | (refine sw_run (by simp [-getElem?_pos, List.getElem?_cons_zero, List.getElem?_cons_succ, ]; exact Is.mk _) ?_)
          | (refine sw_true (by simp [-getElem?_pos, List.getElem?_cons_zero, List.getElem?_cons_succ, ]; exact Is.mk _) ?_) | (refine sw_false (by simp [-getElem?_pos, List.getElem?_cons_zero, List.getElem?_cons_succ, ]; exact Is.mk _) ?_)
          | (refine sw_yes (by simp; exact Is.mk _) (by assumption) ?_)
          | (refine sw_no (by simp; exact Is.mk _) (by assumption) ?_)
          | (refine sw_if (by simp; exact Is.mk _) (fun _ => ?_) (fun _ => ?_)))
        exact end_val (by simp; exact Is.mk _) (by simp [hn0, hn]) ⟨rfl, rfl⟩

end Go.AM
