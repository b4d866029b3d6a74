/- The law ScheduleOrderIsIrrelevant. -/
import Derived.Test.YtmljoaiedihoiaaP5
import Derived.Test.YtmljoaiedihoiaaL1
import Derived.Test.YtmljoaiedihoiaaAm29
namespace Go.AM
set_option linter.unusedVariables false
set_option linter.unusedSimpArgs false
open Go Go.RowKit Go.Proofs

abbrev p8 (n : Int) : PV := .v (.int .u8 n)
@[simp] theorem taU8 : tAgg Try.prog 5 = some (false, 1) := by kernel_rfl
@[simp] theorem tkU8 : tKind Try.prog 5 = some .u8 := by kernel_rfl
@[simp] theorem teTwo : tElem Try.prog 35 = none := by kernel_rfl
@[simp] theorem trTwo : tArr Try.prog 35 = some (2, 1, false) := by kernel_rfl

abbrev ordH (n : Nat) (p : Int) (gs : List Gate) (os : List Int) (l ms : List (List Int)) : Locs :=
  [(n + 4, .row ms.length 24 1 (pcells (lays ms))), (n + 3, .row 0 29 1 [[.own (n + 4) ms.length 0 ms.length]]), (n + 1, schedB l), (n, circB p gs os)]
abbrev ordT (n k d : Nat) : Slots := [(3, .ptr n 0 0 0), (4, .ptr (n + 1) 0 0 0), (7, .ptr (n + 3) 0 0 0), (8, ai k), (9, ai d)]

set_option maxHeartbeats 2000000 in
theorem law_order (p : Int) (gs : List Gate) (os : List Int) (l : List (List Int)) (a : Nat) (b : Int) (ha : a < 256) : Pure Try.prog 5 [circA p gs os, schedA l, .agg [.p (p8 a), .p (p8 b)]] (ab true) := by
  refine pure_of Try.func5 rfl Try.ntmps5 (by simp) fun F n hF hn hn0 => ?_
  unfold circA schedA
  repeat' (first
    | (refine sw_seq ?_) | (refine sw_block ?_) | (refine sw_skip ?_) | (refine sw_ret ?_) | (refine sw_exit ?_)
    | (refine n_then ?_) | (refine r_then ?_) | (refine e_then ?_) | (refine n_block ?_) | (refine r_block ?_) | (refine e_block ?_) | (refine o_block rfl ?_)
    | (refine sw_run (by simp [-getElem?_pos, List.getElem?_cons_zero, List.getElem?_cons_succ, ]; exact Is.mk _) ?_)
    | (refine sw_true (by simp [-getElem?_pos, List.getElem?_cons_zero, List.getElem?_cons_succ, ]; exact Is.mk _) ?_) | (refine sw_false (by simp [-getElem?_pos, List.getElem?_cons_zero, List.getElem?_cons_succ, ]; exact Is.mk _) ?_)
    | (refine sw_yes (by simp; exact Is.mk _) (by assumption) ?_)
    | (refine sw_no (by simp; exact Is.mk _) (by assumption) ?_)
    | (refine sw_if (by simp; exact Is.mk _) (fun _ => ?_) (fun _ => ?_)))
  refine sw_ss ?_
  repeat (refine ss_op rfl (by simp [-getElem?_pos, List.getElem?_cons_zero, List.getElem?_cons_succ, ]; exact Is.mk _) ?_)
  refine ss_pure rfl rfl rfl (by simp [-getElem?_pos, List.getElem?_cons_zero, List.getElem?_cons_succ]; exact Is.mk _) (by kernel_rfl) (awake_spec) ?_
  refine ss_all (by simp [-getElem?_pos, List.getElem?_cons_zero, List.getElem?_cons_succ, ]; exact Is.mk _) ?_
  repeat' (first
    | (refine sw_seq ?_) | (refine sw_block ?_) | (refine sw_skip ?_) | (refine sw_ret ?_) | (refine sw_exit ?_)
    | (refine n_then ?_) | (refine r_then ?_) | (refine e_then ?_) | (refine n_block ?_) | (refine r_block ?_) | (refine e_block ?_) | (refine o_block rfl ?_)
    | (refine sw_run (by simp [-getElem?_pos, List.getElem?_cons_zero, List.getElem?_cons_succ, ]; exact Is.mk _) ?_)
    | (refine sw_true (by simp [-getElem?_pos, List.getElem?_cons_zero, List.getElem?_cons_succ, ]; exact Is.mk _) ?_) | (refine sw_false (by simp [-getElem?_pos, List.getElem?_cons_zero, List.getElem?_cons_succ, ]; exact Is.mk _) ?_)
    | (refine sw_yes (by simp; exact Is.mk _) (by assumption) ?_)
    | (refine sw_no (by simp; exact Is.mk _) (by assumption) ?_)
    | (refine sw_if (by simp; exact Is.mk _) (fun _ => ?_) (fun _ => ?_)))
  refine sw_ss ?_
  repeat (refine ss_op rfl (by simp [-getElem?_pos, List.getElem?_cons_zero, List.getElem?_cons_succ, ]; exact Is.mk _) ?_)
  refine ss_pure rfl rfl rfl (by simp [-getElem?_pos, List.getElem?_cons_zero, List.getElem?_cons_succ]; exact Is.mk _) (by kernel_rfl) (small_spec p gs os 200) ?_
  cases h1 : smallC p gs os 200
  · refine ss_all (by simp [-getElem?_pos, List.getElem?_cons_zero, List.getElem?_cons_succ, ]; exact Is.mk _) ?_
    repeat' (first
      | (refine sw_seq ?_) | (refine sw_block ?_) | (refine sw_skip ?_) | (refine sw_ret ?_) | (refine sw_exit ?_)
      | (refine n_then ?_) | (refine r_then ?_) | (refine e_then ?_) | (refine n_block ?_) | (refine r_block ?_) | (refine e_block ?_) | (refine o_block rfl ?_)
      | (refine sw_run (by simp [-getElem?_pos, List.getElem?_cons_zero, List.getElem?_cons_succ, ]; exact Is.mk _) ?_)
      | (refine sw_true (by simp [-getElem?_pos, List.getElem?_cons_zero, List.getElem?_cons_succ, ]; exact Is.mk _) ?_) | (refine sw_false (by simp [-getElem?_pos, List.getElem?_cons_zero, List.getElem?_cons_succ, ]; exact Is.mk _) ?_)
      | (refine sw_yes (by simp; exact Is.mk _) (by assumption) ?_)
      | (refine sw_no (by simp; exact Is.mk _) (by assumption) ?_)
      | (refine sw_if (by simp; exact Is.mk _) (fun _ => ?_) (fun _ => ?_)))
    exact end_val (by simp; exact Is.mk _) (by simp [hn0, hn]) ⟨rfl, rfl⟩
  · obtain ⟨hgs, hops, _, hg200⟩ := small_to (m := 200) h1 (by omega)
    repeat (refine ss_op rfl (by simp [-getElem?_pos, List.getElem?_cons_zero, List.getElem?_cons_succ, ]; exact Is.mk _) ?_)
    refine ss_pure_g rfl (by simp [-getElem?_pos, List.getElem?_cons_zero, List.getElem?_cons_succ, ]; exact Is.mk _) rfl (by simp; exact Is.mk _) (by kernel_rfl) (few_spec l 40 100 (by omega)) ?_
    cases h2 : fewC l 40 100
    · refine ss_all (by simp [-getElem?_pos, List.getElem?_cons_zero, List.getElem?_cons_succ, ]; exact Is.mk _) ?_
      repeat' (first
        | (refine sw_seq ?_) | (refine sw_block ?_) | (refine sw_skip ?_) | (refine sw_ret ?_) | (refine sw_exit ?_)
        | (refine n_then ?_) | (refine r_then ?_) | (refine e_then ?_) | (refine n_block ?_) | (refine r_block ?_) | (refine e_block ?_) | (refine o_block rfl ?_)
        | (refine sw_run (by simp [-getElem?_pos, List.getElem?_cons_zero, List.getElem?_cons_succ, ]; exact Is.mk _) ?_)
        | (refine sw_true (by simp [-getElem?_pos, List.getElem?_cons_zero, List.getElem?_cons_succ, ]; exact Is.mk _) ?_) | (refine sw_false (by simp [-getElem?_pos, List.getElem?_cons_zero, List.getElem?_cons_succ, ]; exact Is.mk _) ?_)
        | (refine sw_yes (by simp; exact Is.mk _) (by assumption) ?_)
        | (refine sw_no (by simp; exact Is.mk _) (by assumption) ?_)
        | (refine sw_if (by simp; exact Is.mk _) (fun _ => ?_) (fun _ => ?_)))
      exact end_val (by simp; exact Is.mk _) (by simp [hn0, hn]) ⟨rfl, rfl⟩
    · obtain ⟨hl, hll⟩ := few_to h2 (by omega) (by omega)
      have hl40 : l.length ≤ 40 := by simp only [fewC, Bool.and_eq_true, decide_eq_true_eq] at h2; omega
      have w1 : IntKind.i64.wrap (a : Int) = a := i64_in (by omega)
      have w2 : IntKind.i64.wrap ((l.length : Int) + 1) = (l.length : Int) + 1 := i64_in (by omega)
      obtain ⟨k, hke⟩ : ∃ k, k = a % (l.length + 1) := ⟨_, rfl⟩
      have w3 : (a : Int).tmod ((l.length : Int) + 1) = (k : Int) := by rw [Int.tmod_eq_emod_of_nonneg (by omega), hke]; simp
      have w4 : ((l.length : Int) + 1 = 0) = False := by simp; omega
      have hk : k ≤ l.length := by rw [hke]; have := Nat.mod_lt a (show 0 < l.length + 1 by omega); omega
      refine ss_all (by simp [-getElem?_pos, List.getElem?_cons_zero, List.getElem?_cons_succ, ]; exact Is.mk _) ?_
      repeat' (first
        | (refine sw_seq ?_) | (refine sw_block ?_) | (refine sw_skip ?_) | (refine sw_ret ?_) | (refine sw_exit ?_)
        | (refine n_then ?_) | (refine r_then ?_) | (refine e_then ?_) | (refine n_block ?_) | (refine r_block ?_) | (refine e_block ?_) | (refine o_block rfl ?_)
        | (refine sw_run (by simp [-getElem?_pos, List.getElem?_cons_zero, List.getElem?_cons_succ, w1, w2, w3, w4]; exact Is.mk _) ?_)
        | (refine sw_true (by simp [-getElem?_pos, List.getElem?_cons_zero, List.getElem?_cons_succ, w1, w2, w3, w4]; exact Is.mk _) ?_) | (refine sw_false (by simp [-getElem?_pos, List.getElem?_cons_zero, List.getElem?_cons_succ, w1, w2, w3, w4]; exact Is.mk _) ?_)
        | (refine sw_yes (by simp; exact Is.mk _) (by assumption) ?_)
        | (refine sw_no (by simp; exact Is.mk _) (by assumption) ?_)
        | (refine sw_if (by simp; exact Is.mk _) (fun _ => ?_) (fun _ => ?_)))
      clear hke
      refine sw_loopI (α := Nat × List (List Int)) (fun x => ordT n k x.1) (fun x => ordH n p gs os l x.2) (fun _ => n + 5)
        (fun x => x.1 ≤ l.length + 1 ∧ x.2.length ≤ 2 * x.1 ∧ (∀ y ∈ x.2, Small y.length) ∧ x.2 ++ (if x.1 ≤ l.length then insL k x.1 (l.drop x.1) else []) = insL k 0 l) (fun x => l.length + 1 - x.1) (0, []) (by simp) ?_ ?_ ?_
      · intro _
        refine Weak.trans (weak_cut_hp (t' := ordT n k 0) (L' := [(n + 3, .row 0 29 1 [[.p (.v (.slice none 0 0))]]), (n + 1, schedB l), (n, circB p gs os)]) (by simp) (by simp) (by simp [hn])) ?_
        refine weak_adopt_hp (id := n + 4) (sz := 1) (e := 24) (by simp [hn]) (by simp [lays, pcells]) (by simp [conv, convT]) ?_ (by simp)
        simp [convE, convL, conv, nilA]
      · intro x
        exact fresh_of hF (by omega) (by simp)
      · rintro ⟨d, ms⟩ ⟨hd, hml, hsml, hR⟩
        simp only at hd hml hsml hR ⊢
        by_cases hle : d ≤ l.length
        · rw [if_pos hle] at hR
          have hw : IntKind.i64.wrap ((d : Int) + 1) = (d : Int) + 1 := i64_in (by omega)
          repeat' (first
            | (refine sw_seq ?_) | (refine sw_block ?_) | (refine sw_skip ?_)
            | (refine n_then ?_) | (refine r_then ?_) | (refine e_then ?_) | (refine n_block ?_) | (refine r_block ?_) | (refine e_block ?_) | (refine o_block rfl ?_)
            | (refine sw_run (by simp [-getElem?_pos, List.getElem?_cons_zero, List.getElem?_cons_succ, hle]; exact Is.mk _) ?_))
          first
            | (refine sw_true (by simp [-getElem?_pos, List.getElem?_cons_zero, List.getElem?_cons_succ, hle]; exact Is.mk _) ?_) | (refine sw_false (by simp [-getElem?_pos, List.getElem?_cons_zero, List.getElem?_cons_succ, hle]; exact Is.mk _) ?_)
            | (refine sw_yes (by simp; exact Is.mk _) (by assumption) ?_) | (refine sw_no (by simp; exact Is.mk _) (by assumption) ?_)
          repeat' (first
            | (refine sw_seq ?_) | (refine sw_block ?_) | (refine sw_skip ?_)
            | (refine n_then ?_) | (refine r_then ?_) | (refine e_then ?_) | (refine n_block ?_) | (refine r_block ?_) | (refine e_block ?_) | (refine o_block rfl ?_)
            | (refine sw_run (by simp [-getElem?_pos, List.getElem?_cons_zero, List.getElem?_cons_succ, hle]; exact Is.mk _) ?_))
          refine sw_meet (fun x => ordT n k d) (fun x => ordH n p gs os l x) (fun _ => n + 5) (fun x => x = ms ++ if d = k then [[]] else []) (fun x => fresh_of hF (by omega) (by simp)) ?_ ?_
          · by_cases c : d = k
            · have hc : ((d : Int) = k) = True := eq_true (by omega)
              have hsm : Small (ms.length + 1) := Small.mk (by omega)
              repeat' (first
                | (refine sw_seq ?_) | (refine sw_block ?_) | (refine sw_skip ?_) | (refine sw_ret ?_) | (refine sw_exit ?_)
                | (refine n_then ?_) | (refine r_then ?_) | (refine e_then ?_) | (refine n_block ?_) | (refine r_block ?_) | (refine e_block ?_) | (refine o_block rfl ?_)
                | (refine sw_run (by simp [-getElem?_pos, List.getElem?_cons_zero, List.getElem?_cons_succ, hc, hsm]; exact Is.mk _) ?_)
                | (refine sw_true (by simp [-getElem?_pos, List.getElem?_cons_zero, List.getElem?_cons_succ, hc, hsm]; exact Is.mk _) ?_) | (refine sw_false (by simp [-getElem?_pos, List.getElem?_cons_zero, List.getElem?_cons_succ, hc, hsm]; exact Is.mk _) ?_)
                | (refine sw_yes (by simp; exact Is.mk _) (by assumption) ?_)
                | (refine sw_no (by simp; exact Is.mk _) (by assumption) ?_)
                | (refine sw_if (by simp; exact Is.mk _) (fun _ => ?_) (fun _ => ?_)))
              refine ⟨ms ++ [[]], by rw [if_pos c], ?_⟩
              refine Weak.trans (weak_cut_hp (t' := ordT n k d) (L' := [(n + 4, .row (ms.length + 1) 24 1 (pcells (lays ms) ++ [[.p (.v (.slice none 0 0))]])), (n + 3, .row 0 29 1 [[.own (n + 4) (ms.length + 1) 0 (ms.length + 1)]]), (n + 1, schedB l), (n, circB p gs os)]) (by simp) ?_ (by simp [hn])) ?_
              · simp
                exact convE_app (convE_ps _) (by simp [convE, convL, conv])
              · refine weak_nils_hp (by simp) ?_ (by simp)
                intro q hq
                simp only [List.mem_cons, List.not_mem_nil, or_false] at hq
                rcases hq with rfl | rfl | rfl | rfl
                · refine ⟨_, by simp; rfl, .inr ⟨by simp, rfl, rfl, ?_⟩⟩
                  rw [← lays_app']
                  refine convE_app (convE_ps _) ?_
                  simp only [convE, convL, conv, nilS_nil]
                  exact ⟨⟨.inr (.inl ⟨1, by simp [ints]⟩), trivial⟩, trivial⟩
                · exact ⟨_, by simp; rfl, .inr ⟨by simp, rfl, rfl, by simp [convE, convL, conv]⟩⟩
                · exact ⟨_, by simp, .inl rfl⟩
                · exact ⟨_, by simp, .inl rfl⟩
            · have hc : ((d : Int) = k) = False := eq_false (by omega)
              repeat' (first
                | (refine sw_seq ?_) | (refine sw_block ?_) | (refine sw_skip ?_) | (refine sw_ret ?_) | (refine sw_exit ?_)
                | (refine n_then ?_) | (refine r_then ?_) | (refine e_then ?_) | (refine n_block ?_) | (refine r_block ?_) | (refine e_block ?_) | (refine o_block rfl ?_)
                | (refine sw_run (by simp [-getElem?_pos, List.getElem?_cons_zero, List.getElem?_cons_succ, hc]; exact Is.mk _) ?_)
                | (refine sw_true (by simp [-getElem?_pos, List.getElem?_cons_zero, List.getElem?_cons_succ, hc]; exact Is.mk _) ?_) | (refine sw_false (by simp [-getElem?_pos, List.getElem?_cons_zero, List.getElem?_cons_succ, hc]; exact Is.mk _) ?_)
                | (refine sw_yes (by simp; exact Is.mk _) (by assumption) ?_)
                | (refine sw_no (by simp; exact Is.mk _) (by assumption) ?_)
                | (refine sw_if (by simp; exact Is.mk _) (fun _ => ?_) (fun _ => ?_)))
              exact ⟨ms, by rw [if_neg c]; simp, weak_cut_hp (by simp) (by simp [convE_ps]) (by simp)⟩
          · intro ms1 hms1
            have hml1 : ms1.length ≤ ms.length + 1 := by rw [hms1]; split <;> simp
            have hsml1 : ∀ y ∈ ms1, Small y.length := by
              intro y hy
              rw [hms1] at hy
              split at hy
              · simp only [List.mem_append, List.mem_singleton] at hy
                rcases hy with hy | rfl
                · exact hsml y hy
                · exact Small.mk (by simp)
              · simp only [List.append_nil] at hy
                exact hsml y hy
            by_cases hlt : d < l.length
            · obtain ⟨y, hy⟩ := get_lt hlt
              have hyl : Small y.length := hll y (List.mem_of_getElem? hy)
              have hyl2 := hyl.lt
              rw [drop_cons hy] at hR
              simp only [insL] at hR
              rw [← List.append_assoc, ← hms1] at hR
              have w5 : IntKind.i64.wrap ((y.length : Int) - 1) = (y.length : Int) - 1 := i64_in (by omega)
              repeat' (first
                | (refine sw_seq ?_) | (refine sw_block ?_) | (refine sw_skip ?_) | (refine sw_ret ?_) | (refine sw_exit ?_)
                | (refine n_then ?_) | (refine r_then ?_) | (refine e_then ?_) | (refine n_block ?_) | (refine r_block ?_) | (refine e_block ?_) | (refine o_block rfl ?_)
                | (refine sw_run (by simp [-getElem?_pos, List.getElem?_cons_zero, List.getElem?_cons_succ, hlt, hy, w5]; exact Is.mk _) ?_)
                | (refine sw_true (by simp [-getElem?_pos, List.getElem?_cons_zero, List.getElem?_cons_succ, hlt, hy, w5]; exact Is.mk _) ?_) | (refine sw_false (by simp [-getElem?_pos, List.getElem?_cons_zero, List.getElem?_cons_succ, hlt, hy, w5]; exact Is.mk _) ?_)
                | (refine sw_yes (by simp; exact Is.mk _) (by assumption) ?_)
                | (refine sw_no (by simp; exact Is.mk _) (by assumption) ?_)
                | (refine sw_if (by simp; exact Is.mk _) (fun _ => ?_) (fun _ => ?_)))
              refine sw_loopI (α := Int × Nat × List Int) (fun x => ordT n k d ++ [(10, .own (n + 5) x.2.2.length 0 x.2.2.length), (11, ai x.1)]) (fun x => (n + 5, .row x.2.2.length 3 1 (rints x.2.2)) :: ordH n p gs os l ms1) (fun _ => n + 6)
                (fun x => x.2.1 ≤ y.length ∧ x.1 = (x.2.1 : Int) - 1 ∧ x.2.2.length + x.2.1 = y.length ∧ x.2.2 ++ (y.take x.2.1).reverse = y.reverse) (fun x => x.2.1) ((y.length : Int) - 1, y.length, []) (by simp) ?_ ?_ ?_
              · intro _
                refine weak_adopt_hp (id := n + 5) (sz := 1) (e := 3) (by simp [hn]) (by simp [ints, pcells]) (by simp [conv, convT, nilA]) ?_ (by simp)
                simp
              · intro x
                exact fresh_of hF (by omega) (by simp)
              · rintro ⟨i, j, lay⟩ ⟨hj, hij, hlay, hR2⟩
                simp only at hj hij hlay hR2 ⊢
                cases j with
                | zero =>
                  have hi : ¬ 0 ≤ i := by omega
                  simp only [List.take_zero, List.reverse_nil, List.append_nil] at hR2
                  have hsm : Small (ms1.length + 1) := Small.mk (by omega)
                  repeat' (first
                    | (refine sw_seq ?_) | (refine sw_block ?_) | (refine sw_skip ?_) | (refine sw_ret ?_) | (refine sw_exit ?_)
                    | (refine n_then ?_) | (refine r_then ?_) | (refine e_then ?_) | (refine n_block ?_) | (refine r_block ?_) | (refine e_block ?_) | (refine o_block rfl ?_)
                    | (refine sw_run (by simp [-getElem?_pos, List.getElem?_cons_zero, List.getElem?_cons_succ, hi, hsm, hw]; exact Is.mk _) ?_)
                    | (refine sw_true (by simp [-getElem?_pos, List.getElem?_cons_zero, List.getElem?_cons_succ, hi, hsm, hw]; exact Is.mk _) ?_) | (refine sw_false (by simp [-getElem?_pos, List.getElem?_cons_zero, List.getElem?_cons_succ, hi, hsm, hw]; exact Is.mk _) ?_)
                    | (refine sw_yes (by simp; exact Is.mk _) (by assumption) ?_)
                    | (refine sw_no (by simp; exact Is.mk _) (by assumption) ?_)
                    | (refine sw_if (by simp; exact Is.mk _) (fun _ => ?_) (fun _ => ?_)))
                  refine ⟨(d + 1, ms1 ++ [lay]), ⟨by simp only; omega, by simp; omega, ?_, ?_⟩, by simp only; omega, ?_⟩
                  · intro z hz
                    simp only [List.mem_append, List.mem_singleton] at hz
                    rcases hz with hz | rfl
                    · exact hsml1 z hz
                    · exact Small.mk (by omega)
                  · simp only
                    rw [if_pos (by omega), ← hR, hR2]
                    simp
                  · refine weak_freeze_hp (id := n + 5) (ver := lay.length) (sz := 1) (e := 3) (es := ints lay) (by simp) (by simp) (by simp [hn]) ?_ (by simp [hn, hn0])
                    intro q hq
                    simp only [List.mem_cons, List.not_mem_nil, or_false] at hq
                    rcases hq with rfl | rfl | rfl | rfl
                    · refine ⟨_, by simp; rfl, by simp, rfl, rfl, ?_⟩
                      rw [← lays_app']
                      refine convE_app (convE_ps _) ?_
                      simp only [convE, convL, conv, frzA_own]
                      exact ⟨⟨.inr (.inl ⟨trivial, trivial, by rw [List.drop_zero, List.take_of_length_le (by simp)]⟩), trivial⟩, trivial⟩
                    · exact ⟨_, by simp; rfl, by simp, rfl, rfl, by simp [convE, convL, conv]⟩
                    · exact ⟨schedB l, by simp, rfl, rfl, rfl, by simp [convE, convL, conv]⟩
                    · exact ⟨circB p gs os, by simp, rfl, rfl, rfl, by simp [convE, convL, conv]⟩
                | succ m =>
                  obtain rfl : i = m := by omega
                  have hm : m < y.length := by omega
                  obtain ⟨v, hv⟩ := get_lt hm
                  have hsm : Small (lay.length + 1) := Small.mk (by omega)
                  have w6 : IntKind.i64.wrap ((m : Int) - 1) = (m : Int) - 1 := i64_in (by omega)
                  have hnn : (0 : Int) ≤ m := by omega
                  repeat' (first
                    | (refine sw_seq ?_) | (refine sw_block ?_) | (refine sw_skip ?_) | (refine sw_ret ?_) | (refine sw_exit ?_)
                    | (refine n_then ?_) | (refine r_then ?_) | (refine e_then ?_) | (refine n_block ?_) | (refine r_block ?_) | (refine e_block ?_) | (refine o_block rfl ?_)
                    | (refine sw_run (by simp [-getElem?_pos, List.getElem?_cons_zero, List.getElem?_cons_succ, hnn, hy, hlt, hv, hm, hsm, w6]; exact Is.mk _) ?_)
                    | (refine sw_true (by simp [-getElem?_pos, List.getElem?_cons_zero, List.getElem?_cons_succ, hnn, hy, hlt, hv, hm, hsm, w6]; exact Is.mk _) ?_) | (refine sw_false (by simp [-getElem?_pos, List.getElem?_cons_zero, List.getElem?_cons_succ, hnn, hy, hlt, hv, hm, hsm, w6]; exact Is.mk _) ?_)
                    | (refine sw_yes (by simp; exact Is.mk _) (by assumption) ?_)
                    | (refine sw_no (by simp; exact Is.mk _) (by assumption) ?_)
                    | (refine sw_if (by simp; exact Is.mk _) (fun _ => ?_) (fun _ => ?_)))
                  refine ⟨((m : Int) - 1, m, lay ++ [v]), ⟨by simp only; omega, rfl, by simp; omega, ?_⟩, by simp only; omega, weak_cut_hp (by simp) (by simp [rints_app, convE_ps]) (by simp [hn, hn0])⟩
                  rw [take_snoc hv] at hR2
                  simpa using hR2
            · obtain rfl : d = l.length := by omega
              rw [List.drop_length] at hR
              simp only [insL] at hR
              rw [← hms1] at hR
              repeat' (first
                | (refine sw_seq ?_) | (refine sw_block ?_) | (refine sw_skip ?_) | (refine sw_ret ?_) | (refine sw_exit ?_)
                | (refine n_then ?_) | (refine r_then ?_) | (refine e_then ?_) | (refine n_block ?_) | (refine r_block ?_) | (refine e_block ?_) | (refine o_block rfl ?_)
                | (refine sw_run (by simp [-getElem?_pos, List.getElem?_cons_zero, List.getElem?_cons_succ, hw]; exact Is.mk _) ?_)
                | (refine sw_true (by simp [-getElem?_pos, List.getElem?_cons_zero, List.getElem?_cons_succ, hw]; exact Is.mk _) ?_) | (refine sw_false (by simp [-getElem?_pos, List.getElem?_cons_zero, List.getElem?_cons_succ, hw]; exact Is.mk _) ?_)
                | (refine sw_yes (by simp; exact Is.mk _) (by assumption) ?_)
                | (refine sw_no (by simp; exact Is.mk _) (by assumption) ?_)
                | (refine sw_if (by simp; exact Is.mk _) (fun _ => ?_) (fun _ => ?_)))
              refine ⟨(l.length + 1, ms1), ⟨by simp only; omega, by simp only; omega, hsml1, ?_⟩, by simp only; omega, weak_cut_hp (by simp) (by simp [convE_ps]) (by simp)⟩
              simp only
              rw [if_neg (by omega), List.append_nil]
              exact hR
        · rw [if_neg hle, List.append_nil] at hR
          subst hR
          have hms : Small (insL k 0 l).length := Small.mk (by omega)
          have hv1 := valid_spec p gs os l hgs hops hl hll
          have hv2 := valid_spec p gs os (insL k 0 l) hgs hops hms hsml
          rw [valid_ins gs l k hk] at hv2
          repeat' (first
            | (refine sw_seq ?_) | (refine sw_block ?_) | (refine sw_skip ?_) | (refine sw_ret ?_) | (refine sw_exit ?_)
            | (refine n_then ?_) | (refine r_then ?_) | (refine e_then ?_) | (refine n_block ?_) | (refine r_block ?_) | (refine e_block ?_) | (refine o_block rfl ?_)
            | (refine sw_run (by simp [-getElem?_pos, List.getElem?_cons_zero, List.getElem?_cons_succ, hle]; exact Is.mk _) ?_)
            | (refine sw_true (by simp [-getElem?_pos, List.getElem?_cons_zero, List.getElem?_cons_succ, hle]; exact Is.mk _) ?_) | (refine sw_false (by simp [-getElem?_pos, List.getElem?_cons_zero, List.getElem?_cons_succ, hle]; exact Is.mk _) ?_)
            | (refine sw_yes (by simp; exact Is.mk _) (by assumption) ?_)
            | (refine sw_no (by simp; exact Is.mk _) (by assumption) ?_)
            | (refine sw_if (by simp; exact Is.mk _) (fun _ => ?_) (fun _ => ?_)))
          refine sw_weak (n' := n + 4) (t' := [(3, .ptr n 0 0 0), (4, .ptr (n + 1) 0 0 0), (7, .ptr (n + 3) 0 0 0)]) (L' := [(n + 3, schedB (insL k 0 l)), (n + 1, schedB l), (n, circB p gs os)]) ?_ (fresh_of hF (by omega) (by simp)) ?_
          · refine weak_freeze_hp (id := n + 4) (ver := (insL k 0 l).length) (sz := 1) (e := 24) (es := lays (insL k 0 l)) (by simp) (by simp) (by simp [hn]) ?_ (by simp [hn, hn0])
            intro q hq
            simp only [List.mem_cons, List.not_mem_nil, or_false] at hq
            rcases hq with rfl | rfl | rfl
            · refine ⟨.row 0 29 1 [[.own (n + 4) (insL k 0 l).length 0 (insL k 0 l).length]], by simp, rfl, rfl, rfl, ?_⟩
              simp only [convE, convL, conv, frzA_own]
              exact ⟨⟨.inr (.inl ⟨trivial, trivial, by rw [List.drop_zero, List.take_of_length_le (by simp)]⟩), trivial⟩, trivial⟩
            · exact ⟨schedB l, by simp, rfl, rfl, rfl, by simp [convE, convL, conv]⟩
            · exact ⟨circB p gs os, by simp, rfl, rfl, rfl, by simp [convE, convL, conv]⟩
          · refine sw_draw mixed (by kernel_rfl) rfl ?_
            iterate 2 refine ds_op rfl (by simp; exact Is.mk _) ?_
            refine ds_pure_g rfl (by simp; exact Is.mk _) rfl (by simp; exact Is.mk _) (by kernel_rfl) hv1 ?_
            iterate 2 refine ds_op rfl (by simp; exact Is.mk _) ?_
            refine ds_pure_g rfl (by simp; exact Is.mk _) rfl (by simp; exact Is.mk _) (by kernel_rfl) hv2 ?_
            refine ds_all (by simp; exact Is.mk _) (disAll_quiet (by simp)) ?_
            repeat' (first
              | (refine sw_seq ?_) | (refine sw_block ?_) | (refine sw_skip ?_) | (refine sw_ret ?_) | (refine sw_exit ?_)
              | (refine n_then ?_) | (refine r_then ?_) | (refine e_then ?_) | (refine n_block ?_) | (refine r_block ?_) | (refine e_block ?_) | (refine o_block rfl ?_)
              | (refine sw_run (by simp [-getElem?_pos, List.getElem?_cons_zero, List.getElem?_cons_succ, ]; exact Is.mk _) ?_)
              | (refine sw_true (by simp [-getElem?_pos, List.getElem?_cons_zero, List.getElem?_cons_succ, ]; exact Is.mk _) ?_) | (refine sw_false (by simp [-getElem?_pos, List.getElem?_cons_zero, List.getElem?_cons_succ, ]; exact Is.mk _) ?_)
              | (refine sw_yes (by simp; exact Is.mk _) (by assumption) ?_)
              | (refine sw_no (by simp; exact Is.mk _) (by assumption) ?_)
              | (refine sw_if (by simp; exact Is.mk _) (fun _ => ?_) (fun _ => ?_)))
            exact end_val (by simp; exact Is.mk _) (by simp [hn0, hn]) ⟨rfl, by simp⟩

def shTwo : Sh := .agg [.int .u8, .int .u8]
theorem wt_two {c : List PV} (h : Wt shTwo c) : ∃ (a : Nat) (b : Int) (_ : a < 256), argOf shTwo c = .agg [.p (p8 a), .p (p8 b)] := by
  simp only [shTwo, Wt, WtL] at h
  obtain ⟨_, _, rfl, ⟨k, rfl, hk⟩, _, _, rfl, ⟨f, rfl, _⟩, rfl⟩ := h
  simp [Lit.wf] at hk
  have h0 : IntKind.u8.min = 0 := by decide
  have h1 : IntKind.u8.max = 255 := by decide
  refine ⟨k.toNat, f, by omega, ?_⟩
  rw [show ((k.toNat : Nat) : Int) = k by omega]
  rfl
theorem ok_two : shOk Try.prog shTwo 35 = true := by kernel_rfl

end Go.AM
