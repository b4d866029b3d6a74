/- The law ScheduleSequential, walked. -/
import Derived.Test.YtmljoaiedihoiaaL1
import Derived.Test.YtmljoaiedihoiaaS12
import Derived.Test.YtmljoaiedihoiaaAm28
namespace Go.AM
set_option linter.unusedVariables false
set_option linter.unusedSimpArgs false
open Go Go.RowKit Go.Proofs

def seqL (i : Nat) : List Gate → List (List Int)
  | [] => []
  | g :: gs => if g.kind = 6 then [(i : Int)] :: seqL (i + 1) gs else seqL (i + 1) gs

abbrev seqH (n : Nat) (p : Int) (gs : List Gate) (os : List Int) (ls : List (List Int)) : Locs :=
  [(n + 2, .row ls.length 24 1 (pcells (lays ls))), (n + 1, .row 0 29 1 [[.own (n + 2) ls.length 0 ls.length]]), (n, circB p gs os)]

theorem lays_app (ls : List (List Int)) (x : List Int) : pcells (lays ls) ++ [[.p (.sl 1 (ints x))]] = pcells (lays (ls ++ [x])) := by simp [lays, pcells]

set_option maxHeartbeats 2000000 in
theorem law_seq (p : Int) (gs : List Gate) (os : List Int) (H1 : ∀ gs, Small gs.length → opsOk gs → validS gs (seqL 0 gs) = true) (H2 : ∀ gs, Small gs.length → opsOk gs → seqL 0 gs ≠ [] → validS gs ((seqL 0 gs).take ((seqL 0 gs).length - 1)) = false) :
    Pure Try.prog 7 [circA p gs os] (ab true) := by
  refine pure_of Try.func7 rfl Try.ntmps7 (by simp) fun F n hF hn hn0 => ?_
  unfold circA
  repeat' (first
    | (refine sw_seq ?_) | (refine sw_block ?_) | (refine sw_skip ?_) | (refine sw_ret ?_) | (refine sw_exit ?_)
    | (refine n_then ?_) | (refine r_then ?_) | (refine e_then ?_) | (refine n_block ?_) | (refine r_block ?_) | (refine e_block ?_) | (refine o_block rfl ?_)
    | (refine sw_run (by simp []; exact Is.mk _) ?_)
    | (refine sw_true (by simp []; exact Is.mk _) ?_) | (refine sw_false (by simp []; exact Is.mk _) ?_)
    | (refine sw_yes (by simp; exact Is.mk _) (by assumption) ?_)
    | (refine sw_no (by simp; exact Is.mk _) (by assumption) ?_)
    | (refine sw_if (by simp; exact Is.mk _) (fun _ => ?_) (fun _ => ?_)))
  refine sw_ss ?_
  repeat (refine ss_op rfl (by simp []; exact Is.mk _) ?_)
  refine ss_pure rfl rfl rfl (by simp; exact Is.mk _) (by kernel_rfl) (awake_spec) ?_
  refine ss_all (by simp []; exact Is.mk _) ?_
  repeat' (first
    | (refine sw_seq ?_) | (refine sw_block ?_) | (refine sw_skip ?_) | (refine sw_ret ?_) | (refine sw_exit ?_)
    | (refine n_then ?_) | (refine r_then ?_) | (refine e_then ?_) | (refine n_block ?_) | (refine r_block ?_) | (refine e_block ?_) | (refine o_block rfl ?_)
    | (refine sw_run (by simp []; exact Is.mk _) ?_)
    | (refine sw_true (by simp []; exact Is.mk _) ?_) | (refine sw_false (by simp []; exact Is.mk _) ?_)
    | (refine sw_yes (by simp; exact Is.mk _) (by assumption) ?_)
    | (refine sw_no (by simp; exact Is.mk _) (by assumption) ?_)
    | (refine sw_if (by simp; exact Is.mk _) (fun _ => ?_) (fun _ => ?_)))
  refine sw_ss ?_
  repeat (refine ss_op rfl (by simp []; exact Is.mk _) ?_)
  refine ss_pure rfl rfl rfl (by simp; exact Is.mk _) (by kernel_rfl) (small_spec p gs os 100) ?_
  by_cases h1 : smallC p gs os 100 = true
  · obtain ⟨hgs, hops, _, hg100⟩ := small_to (m := 100) h1 (by omega)
    rw [h1]
    refine ss_all (by simp []; exact Is.mk _) ?_
    repeat' (first
      | (refine sw_seq ?_) | (refine sw_block ?_) | (refine sw_skip ?_) | (refine sw_ret ?_) | (refine sw_exit ?_)
      | (refine n_then ?_) | (refine r_then ?_) | (refine e_then ?_) | (refine n_block ?_) | (refine r_block ?_) | (refine e_block ?_) | (refine o_block rfl ?_)
      | (refine sw_run (by simp []; exact Is.mk _) ?_)
      | (refine sw_true (by simp []; exact Is.mk _) ?_) | (refine sw_false (by simp []; exact Is.mk _) ?_)
      | (refine sw_yes (by simp; exact Is.mk _) (by assumption) ?_)
      | (refine sw_no (by simp; exact Is.mk _) (by assumption) ?_)
      | (refine sw_if (by simp; exact Is.mk _) (fun _ => ?_) (fun _ => ?_)))
    refine sw_loopI (α := Nat × List (List Int)) (fun x => [(1, .ptr n 0 0 0), (3, .ptr (n + 1) 0 0 0), (4, ai x.1)]) (fun x => seqH n p gs os x.2) (fun _ => n + 3)
      (fun x => x.1 ≤ gs.length ∧ x.2.length ≤ x.1 ∧ (∀ y ∈ x.2, y.length = 1) ∧ x.2 ++ seqL x.1 (gs.drop x.1) = seqL 0 gs) (fun x => gs.length - x.1) (0, []) (by simp) ?_ ?_ ?_
    · intro _
      refine Weak.trans (weak_cut_hp (t' := [(1, .ptr n 0 0 0), (3, .ptr (n + 1) 0 0 0), (4, ai 0)]) (L' := [(n + 1, .row 0 29 1 [[.p (.v (.slice none 0 0))]]), (n, circB p gs os)]) (by simp) (by simp) (by simp)) ?_
      refine weak_adopt_hp (id := n + 2) (sz := 1) (e := 24) (by simp [hn]) (by simp [lays, pcells]) (by simp [conv, convT]) ?_ (by simp)
      simp [convE, convL, conv, nilA]
    · intro x
      exact fresh_of hF (by omega) (by simp)
    · rintro ⟨k, ls⟩ ⟨hk, hlen, hone, hR⟩
      simp only at hk hlen hone hR ⊢
      by_cases hlt : k < gs.length
      · obtain ⟨g, hg⟩ := get_lt hlt
        have hgg : gs[k] = g := by rw [List.getElem?_eq_getElem hlt] at hg; exact Option.some.inj hg
        have hw := wrap_succ hlt hgs
        have hsm : Small (ls.length + 1) := Small.mk (by omega)
        rw [drop_cons hg] at hR
        simp only [seqL] at hR
        by_cases h6 : g.kind = 6
        · rw [if_pos h6] at hR
          repeat' (first
            | (refine sw_seq ?_) | (refine sw_block ?_) | (refine sw_skip ?_) | (refine sw_ret ?_) | (refine sw_exit ?_)
            | (refine n_then ?_) | (refine r_then ?_) | (refine e_then ?_) | (refine n_block ?_) | (refine r_block ?_) | (refine e_block ?_) | (refine o_block rfl ?_)
            | (refine sw_run (by simp [hg, gateC, h6, hw, hsm, hlt, hgg]; exact Is.mk _) ?_)
            | (refine sw_true (by simp [hg, gateC, h6, hw, hsm, hlt, hgg]; exact Is.mk _) ?_) | (refine sw_false (by simp [hg, gateC, h6, hw, hsm, hlt, hgg]; exact Is.mk _) ?_)
            | (refine sw_yes (by simp; exact Is.mk _) (by assumption) ?_)
            | (refine sw_no (by simp; exact Is.mk _) (by assumption) ?_)
            | (refine sw_if (by simp; exact Is.mk _) (fun _ => ?_) (fun _ => ?_)))
          refine ⟨(k + 1, ls ++ [[(k : Int)]]), ⟨by simp only; omega, by simp; omega, ?_, by simpa using hR⟩, by simp only; omega, ?_⟩
          · intro y hy
            simp only [List.mem_append, List.mem_singleton] at hy
            rcases hy with hy | rfl
            · exact hone y hy
            · rfl
          · refine weak_freeze_hp (id := n + 3) (ver := 0) (sz := 1) (e := 3) (es := ints [(k : Int)]) (by simp [ints, pcells]) (by simp) (by simp [hn]) ?_ (by simp [hn, hn0])
            intro q hq
            simp only [List.mem_cons, List.not_mem_nil, or_false] at hq
            rcases hq with rfl | rfl | rfl
            · refine ⟨_, by simp; rfl, by simp, rfl, rfl, ?_⟩
              rw [← lays_app]
              refine convE_app (convE_ps _) ?_
              simp only [convE, convL, conv, frzA_own]
              exact ⟨⟨.inr (.inl ⟨trivial, trivial, by simp [ints]⟩), trivial⟩, trivial⟩
            · exact ⟨_, by simp; rfl, rfl, rfl, rfl, by simp [convE, convL, conv]⟩
            · exact ⟨circB p gs os, by simp, rfl, rfl, rfl, by simp [convE, convL, conv]⟩
        · rw [if_neg h6] at hR
          repeat' (first
            | (refine sw_seq ?_) | (refine sw_block ?_) | (refine sw_skip ?_) | (refine sw_ret ?_) | (refine sw_exit ?_)
            | (refine n_then ?_) | (refine r_then ?_) | (refine e_then ?_) | (refine n_block ?_) | (refine r_block ?_) | (refine e_block ?_) | (refine o_block rfl ?_)
            | (refine sw_run (by simp [hg, gateC, h6, hw, hlt, hgg]; exact Is.mk _) ?_)
            | (refine sw_true (by simp [hg, gateC, h6, hw, hlt, hgg]; exact Is.mk _) ?_) | (refine sw_false (by simp [hg, gateC, h6, hw, hlt, hgg]; exact Is.mk _) ?_)
            | (refine sw_yes (by simp; exact Is.mk _) (by assumption) ?_)
            | (refine sw_no (by simp; exact Is.mk _) (by assumption) ?_)
            | (refine sw_if (by simp; exact Is.mk _) (fun _ => ?_) (fun _ => ?_)))
          exact ⟨(k + 1, ls), ⟨by simp only; omega, by simp only; omega, hone, hR⟩, by simp only; omega, weak_cut_hp (by simp) (by simp) (by simp [hn])⟩
      · obtain rfl : k = gs.length := by omega
        simp only [List.drop_length, seqL, List.append_nil] at hR
        subst hR
        have hseq : Small (seqL 0 gs).length := Small.mk (by omega)
        have hall : ∀ x ∈ seqL 0 gs, Small x.length := fun x hx => Small.mk (by rw [hone x hx]; omega)
        have hfz : ∀ t, (look t 1 = .ptr n 0 0 0) → (look t 3 = .ptr (n + 1) 0 0 0) → Weak 54 F t (hp F (seqH n p gs os (seqL 0 gs))) [(1, .ptr n 0 0 0), (3, .ptr (n + 1) 0 0 0)] (hp F [(n + 1, schedB (seqL 0 gs)), (n, circB p gs os)]) := by
          intro t ht1 ht3
          refine weak_freeze_hp (id := n + 2) (ver := (seqL 0 gs).length) (sz := 1) (e := 24) (es := lays (seqL 0 gs)) (by simp) (by simp [ht1, ht3]) (by simp [hn]) ?_ (by simp [hn, hn0])
          intro q hq
          simp only [List.mem_cons, List.not_mem_nil, or_false] at hq
          rcases hq with rfl | rfl
          · refine ⟨.row 0 29 1 [[.own (n + 2) (seqL 0 gs).length 0 (seqL 0 gs).length]], by simp, rfl, rfl, rfl, ?_⟩
            simp only [convE, convL, conv, frzA_own]
            exact ⟨⟨.inr (.inl ⟨trivial, trivial, by rw [List.drop_zero, List.take_of_length_le (by simp)]⟩), trivial⟩, trivial⟩
          · exact ⟨circB p gs os, by simp, rfl, rfl, rfl, by simp [convE, convL, conv]⟩
        repeat' (first
          | (refine sw_seq ?_) | (refine sw_block ?_) | (refine sw_skip ?_) | (refine sw_ret ?_) | (refine sw_exit ?_)
          | (refine n_then ?_) | (refine r_then ?_) | (refine e_then ?_) | (refine n_block ?_) | (refine r_block ?_) | (refine e_block ?_) | (refine o_block rfl ?_)
          | (refine sw_run (by simp []; exact Is.mk _) ?_)
          | (refine sw_true (by simp []; exact Is.mk _) ?_) | (refine sw_false (by simp []; exact Is.mk _) ?_)
          | (refine sw_yes (by simp; exact Is.mk _) (by assumption) ?_)
          | (refine sw_no (by simp; exact Is.mk _) (by assumption) ?_)
          | (refine sw_if (by simp; exact Is.mk _) (fun _ => ?_) (fun _ => ?_)))
        · rename_i he
          refine sw_weak (n' := n + 2) (hfz _ (by simp) (by simp)) (fresh_of hF (by omega) (by simp)) ?_
          refine sw_ss ?_
          repeat (refine ss_op rfl (by simp []; exact Is.mk _) ?_)
          refine ss_pure rfl rfl rfl (by simp; exact Is.mk _) (by kernel_rfl) (valid_spec p gs os (seqL 0 gs) hgs hops hseq hall) ?_
          rw [H1 gs hgs hops]
          refine ss_all (by simp []; exact Is.mk _) ?_
          repeat' (first
            | (refine sw_seq ?_) | (refine sw_block ?_) | (refine sw_skip ?_) | (refine sw_ret ?_) | (refine sw_exit ?_)
            | (refine n_then ?_) | (refine r_then ?_) | (refine e_then ?_) | (refine n_block ?_) | (refine r_block ?_) | (refine e_block ?_) | (refine o_block rfl ?_)
            | (refine sw_run (by simp []; exact Is.mk _) ?_)
            | (refine sw_true (by simp []; exact Is.mk _) ?_) | (refine sw_false (by simp []; exact Is.mk _) ?_)
            | (refine sw_yes (by simp; exact Is.mk _) (by assumption) ?_)
            | (refine sw_no (by simp; exact Is.mk _) (by assumption) ?_)
            | (refine sw_if (by simp; exact Is.mk _) (fun _ => ?_) (fun _ => ?_)))
          exact end_val (by simp; exact Is.mk _) (by simp [hn0, hn]) ⟨rfl, rfl⟩
        · rename_i he
          have hsub : IntKind.i64.wrap (((seqL 0 gs).length : Int) - 1) = (((seqL 0 gs).length - 1 : Nat) : Int) := by
            have : 0 < (seqL 0 gs).length := List.length_pos_iff.2 he
            rw [i64_in (by omega)]; omega
          have hv2 := valid_spec p gs os ((seqL 0 gs).take ((seqL 0 gs).length - 1)) hgs hops (Small.mk (by simp; omega)) (fun x hx => hall x (List.mem_of_mem_take hx))
          rw [H2 gs hgs hops he] at hv2
          have hv1 := valid_spec p gs os (seqL 0 gs) hgs hops hseq hall
          rw [H1 gs hgs hops] at hv1
          have hlt2 : lays (List.take ((seqL 0 gs).length - 1) (seqL 0 gs)) = (lays (seqL 0 gs)).take ((seqL 0 gs).length - 1) := by simp [lays, List.map_take]
          unfold schedA at hv2
          rw [hlt2] at hv2
          refine sw_weak (n' := n + 2) (hfz _ (by simp) (by simp)) (fresh_of hF (by omega) (by simp)) ?_
          refine sw_draw mixed (by kernel_rfl) rfl ?_
          iterate 2 refine ds_op rfl (by simp; exact Is.mk _) ?_
          refine ds_pure_g rfl (by simp; exact Is.mk _) rfl (by simp; exact Is.mk _) (by kernel_rfl) hv1 ?_
          iterate 10 refine ds_op rfl (by simp [hsub]; exact Is.mk _) ?_
          refine ds_pure_g rfl (by simp; exact Is.mk _) rfl (by simp; exact Is.mk _) (by kernel_rfl) hv2 ?_
          refine ds_all (by simp; exact Is.mk _) (disAll_quiet (by simp)) ?_
          repeat' (first
            | (refine sw_seq ?_) | (refine sw_block ?_) | (refine sw_skip ?_) | (refine sw_ret ?_) | (refine sw_exit ?_)
            | (refine n_then ?_) | (refine r_then ?_) | (refine e_then ?_) | (refine n_block ?_) | (refine r_block ?_) | (refine e_block ?_) | (refine o_block rfl ?_)
            | (refine sw_run (by simp []; exact Is.mk _) ?_)
            | (refine sw_true (by simp []; exact Is.mk _) ?_) | (refine sw_false (by simp []; exact Is.mk _) ?_)
            | (refine sw_yes (by simp; exact Is.mk _) (by assumption) ?_)
            | (refine sw_no (by simp; exact Is.mk _) (by assumption) ?_)
            | (refine sw_if (by simp; exact Is.mk _) (fun _ => ?_) (fun _ => ?_)))
          exact end_val (by simp; exact Is.mk _) (by simp [hn0, hn]) ⟨rfl, rfl⟩
  · rw [show smallC p gs os 100 = false by simpa using h1]
    refine ss_all (by simp []; exact Is.mk _) ?_
    repeat' (first
      | (refine sw_seq ?_) | (refine sw_block ?_) | (refine sw_skip ?_) | (refine sw_ret ?_) | (refine sw_exit ?_)
      | (refine n_then ?_) | (refine r_then ?_) | (refine e_then ?_) | (refine n_block ?_) | (refine r_block ?_) | (refine e_block ?_) | (refine o_block rfl ?_)
      | (refine sw_run (by simp []; exact Is.mk _) ?_)
      | (refine sw_true (by simp []; exact Is.mk _) ?_) | (refine sw_false (by simp []; exact Is.mk _) ?_)
      | (refine sw_yes (by simp; exact Is.mk _) (by assumption) ?_)
      | (refine sw_no (by simp; exact Is.mk _) (by assumption) ?_)
      | (refine sw_if (by simp; exact Is.mk _) (fun _ => ?_) (fun _ => ?_)))
    exact end_val (by simp; exact Is.mk _) (by simp [hn0, hn]) ⟨rfl, rfl⟩

end Go.AM
