/- The reference's schedule, costs. -/
import Derived.Test.YtmljoaiedihoiaaS13
import Derived.Test.YtmljoaiedihoiaaAm28
namespace Go.AM
set_option linter.unusedVariables false
set_option linter.unusedSimpArgs false
open Go Go.RowKit Go.Proofs

theorem mostFrom_is {dp : List Int} : ∀ {gs : List Gate} {i : Nat}, mostFrom dp i gs = 0 ∨ ∃ (j : Nat) (g : Gate), gs[j]? = some g ∧ g.kind = 6 ∧ mostFrom dp i gs = (dp.getD (i + j) 0).toNat
  | [], _ => .inl rfl
  | g :: gs, i => by
    simp only [mostFrom]
    split
    · rename_i hc
      exact .inr ⟨0, g, rfl, hc.1, rfl⟩
    · rcases mostFrom_is (dp := dp) (gs := gs) (i := i + 1) with h | ⟨j, g', h1, h2, h3⟩
      · exact .inl h
      · exact .inr ⟨j + 1, g', by simpa using h1, h2, by rw [h3, show i + 1 + j = i + (j + 1) by omega]⟩

theorem most_all {gs : List Gate} (h : opsOk gs) (hs : Small gs.length) : mxL (fun x => x) (dep gs) = mostFrom (dep gs) 0 gs := by
  have h1 : mxL (fun x => x) (dep gs) ≤ mostFrom (dep gs) 0 gs := mxL_le (by omega) fun x hx => by
    obtain ⟨i, hi, rfl⟩ := List.getElem_of_mem hx
    have := dep_le_most h hs i (by rw [dep_len h hs] at hi; exact hi)
    rwa [List.getD_eq_getElem?_getD, List.getElem?_eq_getElem hi] at this
  have h2 : (mostFrom (dep gs) 0 gs : Int) ≤ mxL (fun x => x) (dep gs) := by
    have h0 := mxL_nonneg (fun x => x) (dep gs)
    rcases mostFrom_is (dp := dep gs) (gs := gs) (i := 0) with e | ⟨j, g, e1, e2, e3⟩
    · omega
    · rw [Nat.zero_add] at e3
      have hj : j < (dep gs).length := by rw [dep_len h hs]; exact (List.getElem?_eq_some_iff.1 e1).1
      have := mxL_ge (f := fun x => x) (ks := dep gs) (k := (dep gs).getD j 0) (by rw [List.getD_eq_getElem?_getD, List.getElem?_eq_getElem hj]; exact List.getElem_mem hj)
      omega
  omega

theorem most_bd {gs : List Gate} (h : opsOk gs) (hs : Small gs.length) : mostFrom (dep gs) 0 gs ≤ gs.length := mostFrom_le fun j g hg _ => by
  have hj := (List.getElem?_eq_some_iff.1 hg).1
  have := dep_bd h hs hj
  rw [Nat.zero_add]
  omega

def layD (gs : List Gate) (m : Nat) : List (List Int) := (List.range m).map fun d => selFrom (dep gs) (d + 1) 0 gs
@[simp] theorem layD_length (gs : List Gate) (m : Nat) : (layD gs m).length = m := by simp [layD]
theorem layD_succ (gs : List Gate) (m : Nat) : layD gs m ++ [selFrom (dep gs) (m + 1) 0 gs] = layD gs (m + 1) := by simp [layD, List.range_succ]

abbrev rnH (n : Nat) (p : Int) (gs : List Gate) (os : List Int) (ls : List (List Int)) : Locs :=
  [(n + 3, .row ls.length 24 1 (pcells (lays ls))), (n + 2, .row 0 29 1 [[.own (n + 3) ls.length 0 ls.length]]), (n + 1, .row 0 29 1 [[.p (.v (.slice none 0 0))]]), (n, circB p gs os)]

theorem lays_app' (ls : List (List Int)) (x : List Int) : pcells (lays ls) ++ [[.p (.sl 1 (ints x))]] = pcells (lays (ls ++ [x])) := by simp [lays, pcells]

set_option maxHeartbeats 2000000 in
theorem rnew_spec (p : Int) (gs : List Gate) (os : List Int) (hgs : Small gs.length) (hv : opsOk gs) : Pure Try.prog 31 [circA p gs os] (schedA (newS gs)) := by
  refine pure_of Try.func31 rfl Try.ntmps31 (by simp) fun F n hF hn hn0 => ?_
  have hdl := dep_len hv hgs
  have hdall := most_all hv hgs
  have hM := most_bd hv hgs
  have hnew : newS gs = layD gs (mostFrom (dep gs) 0 gs) := newS_eq hv hgs
  generalize mostFrom (dep gs) 0 gs = M at hdall hM hnew
  have hs := hgs.lt
  unfold circA
  repeat' (first
    | (refine sw_seq ?_) | (refine sw_block ?_) | (refine sw_skip ?_) | (refine sw_ret ?_) | (refine sw_exit ?_)
    | (refine n_then ?_) | (refine r_then ?_) | (refine e_then ?_) | (refine n_block ?_) | (refine r_block ?_) | (refine e_block ?_) | (refine o_block rfl ?_)
    | (refine sw_run (by simp [-getElem?_pos, List.getElem?_cons_zero, List.getElem?_cons_succ, ]; exact Is.mk _) ?_)
    | (refine sw_true (by simp [-getElem?_pos, List.getElem?_cons_zero, List.getElem?_cons_succ, ]; exact Is.mk _) ?_) | (refine sw_false (by simp [-getElem?_pos, List.getElem?_cons_zero, List.getElem?_cons_succ, ]; exact Is.mk _) ?_)
    | (refine sw_yes (by simp; exact Is.mk _) (by assumption) ?_)
    | (refine sw_no (by simp; exact Is.mk _) (by assumption) ?_)
    | (refine sw_if (by simp; exact Is.mk _) (fun _ => ?_) (fun _ => ?_)))
  refine sw_ss ?_
  repeat (refine ss_op rfl (by simp [-getElem?_pos, List.getElem?_cons_zero, List.getElem?_cons_succ, ]; exact Is.mk _) ?_)
  refine ss_pure rfl rfl rfl (by simp [-getElem?_pos, List.getElem?_cons_zero, List.getElem?_cons_succ]; exact Is.mk _) (by kernel_rfl) (rdepths_spec p gs os hgs hv) ?_
  refine ss_all (by simp [-getElem?_pos, List.getElem?_cons_zero, List.getElem?_cons_succ, ]; exact Is.mk _) ?_
  repeat' (first
    | (refine sw_seq ?_) | (refine sw_block ?_) | (refine sw_skip ?_) | (refine sw_ret ?_) | (refine sw_exit ?_)
    | (refine n_then ?_) | (refine r_then ?_) | (refine e_then ?_) | (refine n_block ?_) | (refine r_block ?_) | (refine e_block ?_) | (refine o_block rfl ?_)
    | (refine sw_run (by simp [-getElem?_pos, List.getElem?_cons_zero, List.getElem?_cons_succ, ]; exact Is.mk _) ?_)
    | (refine sw_true (by simp [-getElem?_pos, List.getElem?_cons_zero, List.getElem?_cons_succ, ]; exact Is.mk _) ?_) | (refine sw_false (by simp [-getElem?_pos, List.getElem?_cons_zero, List.getElem?_cons_succ, ]; exact Is.mk _) ?_)
    | (refine sw_yes (by simp; exact Is.mk _) (by assumption) ?_)
    | (refine sw_no (by simp; exact Is.mk _) (by assumption) ?_)
    | (refine sw_if (by simp; exact Is.mk _) (fun _ => ?_) (fun _ => ?_)))
  refine sw_loopI (α := Nat × Int) (fun x => [(1, .ptr n 0 0 0), (2, .ptr (n + 1) 0 0 0), (3, .p (.sl 1 (ints (dep gs)))), (4, ai x.2), (5, ai x.1)]) (fun _ => [(n + 1, .row 0 29 1 [[.p (.v (.slice none 0 0))]]), (n, circB p gs os)]) (fun _ => n + 2)
    (fun x => x.1 ≤ gs.length ∧ 0 ≤ x.2 ∧ max x.2 (mxL (fun x => x) ((dep gs).drop x.1)) = M) (fun x => gs.length - x.1) (0, 0) ⟨Nat.zero_le _, Int.le_refl _, by simp only [List.drop_zero]; omega⟩ ?_ ?_ ?_
  · intro _
    exact weak_cut_hp (by simp) (by simp) (by simp)
  · intro x
    exact fresh_of hF (by omega) (by simp)
  · rintro ⟨i, m⟩ ⟨hi, hm0, hm⟩
    simp only at hi hm0 hm ⊢
    by_cases hlt : i < gs.length
    · obtain ⟨v, hv⟩ := get_lt (l := dep gs) (k := i) (by omega)
      have hw := wrap_succ hlt hgs
      rw [drop_cons hv] at hm
      simp only [mxL] at hm
      by_cases c : m < v
      · repeat' (first
          | (refine sw_seq ?_) | (refine sw_block ?_) | (refine sw_skip ?_) | (refine sw_ret ?_) | (refine sw_exit ?_)
          | (refine n_then ?_) | (refine r_then ?_) | (refine e_then ?_) | (refine n_block ?_) | (refine r_block ?_) | (refine e_block ?_) | (refine o_block rfl ?_)
          | (refine sw_run (by simp [-getElem?_pos, List.getElem?_cons_zero, List.getElem?_cons_succ, hv, hlt, hw, c, hdl]; exact Is.mk _) ?_)
          | (refine sw_true (by simp [-getElem?_pos, List.getElem?_cons_zero, List.getElem?_cons_succ, hv, hlt, hw, c, hdl]; exact Is.mk _) ?_) | (refine sw_false (by simp [-getElem?_pos, List.getElem?_cons_zero, List.getElem?_cons_succ, hv, hlt, hw, c, hdl]; exact Is.mk _) ?_)
          | (refine sw_yes (by simp; exact Is.mk _) (by assumption) ?_)
          | (refine sw_no (by simp; exact Is.mk _) (by assumption) ?_)
          | (refine sw_if (by simp; exact Is.mk _) (fun _ => ?_) (fun _ => ?_)))
        exact ⟨(i + 1, v), ⟨by simp only; omega, by simp only; omega, by simp only; omega⟩, by simp only; omega, weak_cut_hp (by simp) (by simp) (by simp)⟩
      · repeat' (first
          | (refine sw_seq ?_) | (refine sw_block ?_) | (refine sw_skip ?_) | (refine sw_ret ?_) | (refine sw_exit ?_)
          | (refine n_then ?_) | (refine r_then ?_) | (refine e_then ?_) | (refine n_block ?_) | (refine r_block ?_) | (refine e_block ?_) | (refine o_block rfl ?_)
          | (refine sw_run (by simp [-getElem?_pos, List.getElem?_cons_zero, List.getElem?_cons_succ, hv, hlt, hw, c, hdl]; exact Is.mk _) ?_)
          | (refine sw_true (by simp [-getElem?_pos, List.getElem?_cons_zero, List.getElem?_cons_succ, hv, hlt, hw, c, hdl]; exact Is.mk _) ?_) | (refine sw_false (by simp [-getElem?_pos, List.getElem?_cons_zero, List.getElem?_cons_succ, hv, hlt, hw, c, hdl]; exact Is.mk _) ?_)
          | (refine sw_yes (by simp; exact Is.mk _) (by assumption) ?_)
          | (refine sw_no (by simp; exact Is.mk _) (by assumption) ?_)
          | (refine sw_if (by simp; exact Is.mk _) (fun _ => ?_) (fun _ => ?_)))
        exact ⟨(i + 1, m), ⟨by simp only; omega, by simp only; omega, by simp only; omega⟩, by simp only; omega, weak_cut_hp (by simp) (by simp) (by simp)⟩
    · obtain rfl : i = gs.length := by omega
      rw [List.drop_of_length_le (by omega)] at hm
      simp only [mxL] at hm
      obtain rfl : m = M := by omega
      repeat' (first
        | (refine sw_seq ?_) | (refine sw_block ?_) | (refine sw_skip ?_) | (refine sw_ret ?_) | (refine sw_exit ?_)
        | (refine n_then ?_) | (refine r_then ?_) | (refine e_then ?_) | (refine n_block ?_) | (refine r_block ?_) | (refine e_block ?_) | (refine o_block rfl ?_)
        | (refine sw_run (by simp [-getElem?_pos, List.getElem?_cons_zero, List.getElem?_cons_succ, hdl]; exact Is.mk _) ?_)
        | (refine sw_true (by simp [-getElem?_pos, List.getElem?_cons_zero, List.getElem?_cons_succ, hdl]; exact Is.mk _) ?_) | (refine sw_false (by simp [-getElem?_pos, List.getElem?_cons_zero, List.getElem?_cons_succ, hdl]; exact Is.mk _) ?_)
        | (refine sw_yes (by simp; exact Is.mk _) (by assumption) ?_)
        | (refine sw_no (by simp; exact Is.mk _) (by assumption) ?_)
        | (refine sw_if (by simp; exact Is.mk _) (fun _ => ?_) (fun _ => ?_)))
      refine sw_loopI (α := Int × Nat) (fun x => [(1, .ptr n 0 0 0), (2, .ptr (n + 1) 0 0 0), (3, .p (.sl 1 (ints (dep gs)))), (4, ai M), (6, .ptr (n + 2) 0 0 0), (7, ai x.1)]) (fun x => rnH n p gs os (layD gs x.2)) (fun _ => n + 4)
        (fun x => x.2 ≤ M ∧ x.1 = x.2 + 1) (fun x => M - x.2) (1, 0) (by simp) ?_ ?_ ?_
      · intro _
        refine Weak.trans (weak_cut_hp (t' := [(1, .ptr n 0 0 0), (2, .ptr (n + 1) 0 0 0), (3, .p (.sl 1 (ints (dep gs)))), (4, ai M), (6, .ptr (n + 2) 0 0 0), (7, ai 1)])
          (L' := [(n + 2, .row 0 29 1 [[.p (.v (.slice none 0 0))]]), (n + 1, .row 0 29 1 [[.p (.v (.slice none 0 0))]]), (n, circB p gs os)]) (by simp) (by simp) (by simp)) ?_
        refine weak_adopt_hp (id := n + 3) (sz := 1) (e := 24) (by simp [hn]) (by simp [lays, pcells, layD]) (by simp [conv, convT]) ?_ (by simp)
        simp [convE, convL, conv, nilA]
      · intro x
        exact fresh_of hF (by omega) (by simp)
      · rintro ⟨d, k⟩ ⟨hk, hd⟩
        simp only at hk hd ⊢
        by_cases hlt : k < M
        · have c : d ≤ M := by omega
          repeat' (first
            | (refine sw_seq ?_) | (refine sw_block ?_) | (refine sw_skip ?_) | (refine sw_ret ?_) | (refine sw_exit ?_)
            | (refine n_then ?_) | (refine r_then ?_) | (refine e_then ?_) | (refine n_block ?_) | (refine r_block ?_) | (refine e_block ?_) | (refine o_block rfl ?_)
            | (refine sw_run (by simp [-getElem?_pos, List.getElem?_cons_zero, List.getElem?_cons_succ, c]; exact Is.mk _) ?_)
            | (refine sw_true (by simp [-getElem?_pos, List.getElem?_cons_zero, List.getElem?_cons_succ, c]; exact Is.mk _) ?_) | (refine sw_false (by simp [-getElem?_pos, List.getElem?_cons_zero, List.getElem?_cons_succ, c]; exact Is.mk _) ?_)
            | (refine sw_yes (by simp; exact Is.mk _) (by assumption) ?_)
            | (refine sw_no (by simp; exact Is.mk _) (by assumption) ?_)
            | (refine sw_if (by simp; exact Is.mk _) (fun _ => ?_) (fun _ => ?_)))
          refine sw_loopI (α := Nat × List Int) (fun x => [(1, .ptr n 0 0 0), (2, .ptr (n + 1) 0 0 0), (3, .p (.sl 1 (ints (dep gs)))), (4, ai M), (6, .ptr (n + 2) 0 0 0), (7, ai d), (8, .own (n + 4) x.2.length 0 x.2.length), (9, ai x.1)]) (fun x => (n + 4, .row x.2.length 3 1 (rints x.2)) :: rnH n p gs os (layD gs k)) (fun _ => n + 5)
            (fun x => x.1 ≤ gs.length ∧ x.2.length ≤ x.1 ∧ x.2 ++ selFrom (dep gs) (k + 1) x.1 (gs.drop x.1) = selFrom (dep gs) (k + 1) 0 gs) (fun x => gs.length - x.1) (0, []) (by simp) ?_ ?_ ?_
          · intro _
            refine weak_adopt_hp (id := n + 4) (sz := 1) (e := 3) (by simp [hn]) (by simp [ints, pcells]) (by simp [conv, convT, nilA]) ?_ (by simp)
            simp
          · intro x
            exact fresh_of hF (by omega) (by simp)
          · rintro ⟨i, lay⟩ ⟨hi, hll, hR⟩
            simp only at hi hll hR ⊢
            by_cases hil : i < gs.length
            · obtain ⟨v, hv⟩ := get_lt (l := dep gs) (k := i) (by omega)
              obtain ⟨g, hg⟩ := get_lt hil
              have hwi := wrap_succ hil hgs
              have hsm : Small (lay.length + 1) := Small.mk (by omega)
              have hgd : (dep gs).getD i 0 = v := by rw [List.getD_eq_getElem?_getD, hv]; rfl
              rw [drop_cons hg] at hR
              simp only [selFrom, hgd] at hR
              by_cases c1 : v = d
              · by_cases h6 : g.kind = 6
                · rw [if_pos ⟨h6, by omega⟩] at hR
                  repeat' (first
                    | (refine sw_seq ?_) | (refine sw_block ?_) | (refine sw_skip ?_) | (refine sw_ret ?_) | (refine sw_exit ?_)
                    | (refine n_then ?_) | (refine r_then ?_) | (refine e_then ?_) | (refine n_block ?_) | (refine r_block ?_) | (refine e_block ?_) | (refine o_block rfl ?_)
                    | (refine sw_run (by simp [-getElem?_pos, List.getElem?_cons_zero, List.getElem?_cons_succ, hil, hdl, hv, hg, c1, h6, gateC, hwi, hsm]; exact Is.mk _) ?_)
                    | (refine sw_true (by simp [-getElem?_pos, List.getElem?_cons_zero, List.getElem?_cons_succ, hil, hdl, hv, hg, c1, h6, gateC, hwi, hsm]; exact Is.mk _) ?_) | (refine sw_false (by simp [-getElem?_pos, List.getElem?_cons_zero, List.getElem?_cons_succ, hil, hdl, hv, hg, c1, h6, gateC, hwi, hsm]; exact Is.mk _) ?_)
                    | (refine sw_yes (by simp; exact Is.mk _) (by assumption) ?_)
                    | (refine sw_no (by simp; exact Is.mk _) (by assumption) ?_)
                    | (refine sw_if (by simp; exact Is.mk _) (fun _ => ?_) (fun _ => ?_)))
                  exact ⟨(i + 1, lay ++ [(i : Int)]), ⟨by simp only; omega, by simp; omega, by simpa using hR⟩, by simp only; omega, weak_cut_hp (by simp) (by simp [rints_app]) (by simp [hn, hn0])⟩
                · rw [if_neg (fun e => h6 e.1)] at hR
                  repeat' (first
                    | (refine sw_seq ?_) | (refine sw_block ?_) | (refine sw_skip ?_) | (refine sw_ret ?_) | (refine sw_exit ?_)
                    | (refine n_then ?_) | (refine r_then ?_) | (refine e_then ?_) | (refine n_block ?_) | (refine r_block ?_) | (refine e_block ?_) | (refine o_block rfl ?_)
                    | (refine sw_run (by simp [-getElem?_pos, List.getElem?_cons_zero, List.getElem?_cons_succ, hil, hdl, hv, hg, c1, h6, gateC, hwi, hsm]; exact Is.mk _) ?_)
                    | (refine sw_true (by simp [-getElem?_pos, List.getElem?_cons_zero, List.getElem?_cons_succ, hil, hdl, hv, hg, c1, h6, gateC, hwi, hsm]; exact Is.mk _) ?_) | (refine sw_false (by simp [-getElem?_pos, List.getElem?_cons_zero, List.getElem?_cons_succ, hil, hdl, hv, hg, c1, h6, gateC, hwi, hsm]; exact Is.mk _) ?_)
                    | (refine sw_yes (by simp; exact Is.mk _) (by assumption) ?_)
                    | (refine sw_no (by simp; exact Is.mk _) (by assumption) ?_)
                    | (refine sw_if (by simp; exact Is.mk _) (fun _ => ?_) (fun _ => ?_)))
                  exact ⟨(i + 1, lay), ⟨by simp only; omega, by simp only; omega, hR⟩, by simp only; omega, weak_cut_hp (by simp) (by simp) (by simp [hn, hn0])⟩
              · rw [if_neg (fun e => c1 (by omega))] at hR
                repeat' (first
                  | (refine sw_seq ?_) | (refine sw_block ?_) | (refine sw_skip ?_) | (refine sw_ret ?_) | (refine sw_exit ?_)
                  | (refine n_then ?_) | (refine r_then ?_) | (refine e_then ?_) | (refine n_block ?_) | (refine r_block ?_) | (refine e_block ?_) | (refine o_block rfl ?_)
                  | (refine sw_run (by simp [-getElem?_pos, List.getElem?_cons_zero, List.getElem?_cons_succ, hil, hdl, hv, hg, c1, gateC, hwi, hsm]; exact Is.mk _) ?_)
                  | (refine sw_true (by simp [-getElem?_pos, List.getElem?_cons_zero, List.getElem?_cons_succ, hil, hdl, hv, hg, c1, gateC, hwi, hsm]; exact Is.mk _) ?_) | (refine sw_false (by simp [-getElem?_pos, List.getElem?_cons_zero, List.getElem?_cons_succ, hil, hdl, hv, hg, c1, gateC, hwi, hsm]; exact Is.mk _) ?_)
                  | (refine sw_yes (by simp; exact Is.mk _) (by assumption) ?_)
                  | (refine sw_no (by simp; exact Is.mk _) (by assumption) ?_)
                  | (refine sw_if (by simp; exact Is.mk _) (fun _ => ?_) (fun _ => ?_)))
                exact ⟨(i + 1, lay), ⟨by simp only; omega, by simp only; omega, hR⟩, by simp only; omega, weak_cut_hp (by simp) (by simp) (by simp [hn, hn0])⟩
            · obtain rfl : i = gs.length := by omega
              simp only [List.drop_length, selFrom, List.append_nil] at hR
              have hwd : IntKind.i64.wrap (d + 1) = d + 1 := i64_in (by omega)
              have hsm : Small (k + 1) := Small.mk (by omega)
              repeat' (first
                | (refine sw_seq ?_) | (refine sw_block ?_) | (refine sw_skip ?_) | (refine sw_ret ?_) | (refine sw_exit ?_)
                | (refine n_then ?_) | (refine r_then ?_) | (refine e_then ?_) | (refine n_block ?_) | (refine r_block ?_) | (refine e_block ?_) | (refine o_block rfl ?_)
                | (refine sw_run (by simp [-getElem?_pos, List.getElem?_cons_zero, List.getElem?_cons_succ, hdl, hsm, hwd]; exact Is.mk _) ?_)
                | (refine sw_true (by simp [-getElem?_pos, List.getElem?_cons_zero, List.getElem?_cons_succ, hdl, hsm, hwd]; exact Is.mk _) ?_) | (refine sw_false (by simp [-getElem?_pos, List.getElem?_cons_zero, List.getElem?_cons_succ, hdl, hsm, hwd]; exact Is.mk _) ?_)
                | (refine sw_yes (by simp; exact Is.mk _) (by assumption) ?_)
                | (refine sw_no (by simp; exact Is.mk _) (by assumption) ?_)
                | (refine sw_if (by simp; exact Is.mk _) (fun _ => ?_) (fun _ => ?_)))
              refine ⟨(d + 1, k + 1), ⟨by simp only; omega, by simp only; omega⟩, by simp only; omega, ?_⟩
              refine weak_freeze_hp (id := n + 4) (ver := lay.length) (sz := 1) (e := 3) (es := ints lay) (by simp) (by simp) (by simp [hn]) ?_ (by simp [hn, hn0])
              intro q hq
              simp only [List.mem_cons, List.not_mem_nil, or_false] at hq
              rcases hq with rfl | rfl | rfl | rfl
              · refine ⟨_, by simp; rfl, by simp, rfl, rfl, ?_⟩
                rw [← layD_succ, ← hR, ← lays_app']
                refine convE_app (convE_ps _) ?_
                simp only [convE, convL, conv, frzA_own]
                exact ⟨⟨.inr (.inl ⟨trivial, trivial, by rw [List.drop_zero, List.take_of_length_le (by simp)]⟩), trivial⟩, trivial⟩
              · exact ⟨_, by simp; rfl, by simp, rfl, rfl, by simp [convE, convL, conv]⟩
              · exact ⟨.row 0 29 1 [[.p (.v (.slice none 0 0))]], by simp, rfl, rfl, rfl, by simp [convE, convL, conv]⟩
              · exact ⟨circB p gs os, by simp, rfl, rfl, rfl, by simp [convE, convL, conv]⟩
        · obtain rfl : k = M := by omega
          have c : ¬ d ≤ k := by omega
          repeat' (first
            | (refine sw_seq ?_) | (refine sw_block ?_) | (refine sw_skip ?_) | (refine sw_ret ?_) | (refine sw_exit ?_)
            | (refine n_then ?_) | (refine r_then ?_) | (refine e_then ?_) | (refine n_block ?_) | (refine r_block ?_) | (refine e_block ?_) | (refine o_block rfl ?_)
            | (refine sw_run (by simp [-getElem?_pos, List.getElem?_cons_zero, List.getElem?_cons_succ, c]; exact Is.mk _) ?_)
            | (refine sw_true (by simp [-getElem?_pos, List.getElem?_cons_zero, List.getElem?_cons_succ, c]; exact Is.mk _) ?_) | (refine sw_false (by simp [-getElem?_pos, List.getElem?_cons_zero, List.getElem?_cons_succ, c]; exact Is.mk _) ?_)
            | (refine sw_yes (by simp; exact Is.mk _) (by assumption) ?_)
            | (refine sw_no (by simp; exact Is.mk _) (by assumption) ?_)
            | (refine sw_if (by simp; exact Is.mk _) (fun _ => ?_) (fun _ => ?_)))
          refine end_ret (r := .agg [.own (n + 3) k 0 k]) (by simp; exact Is.mk _) (fun _ => weak_frozen (id := n + 3) (ver := k) (sz := 1) (e := 24) (es := lays (layD gs k)) (by simp) (hn 3) ?_ (by simp [hn, hn0])) ⟨rfl, by rw [hnew]⟩
          simp only [conv]
          refine .inr ⟨[.p (.sl 1 (lays (layD gs k)))], rfl, ?_⟩
          simp only [convL, conv, frzA_own]
          exact ⟨.inr (.inl ⟨trivial, trivial, by rw [List.drop_zero, List.take_of_length_le (by simp)]⟩), trivial⟩

end Go.AM
