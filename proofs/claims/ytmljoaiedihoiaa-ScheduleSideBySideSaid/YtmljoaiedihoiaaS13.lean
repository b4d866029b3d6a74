/- The reference's depths, schedule, costs. -/
import Derived.Test.YtmljoaiedihoiaaP3
namespace Go.AM
set_option linter.unusedVariables false
set_option linter.unusedSimpArgs false
open Go Go.RowKit Go.Proofs

set_option maxHeartbeats 1000000 in
theorem rdepths_spec (p : Int) (gs : List Gate) (os : List Int) (hgs : Small gs.length) (hv : opsOk gs) : Pure Try.prog 36 [circA p gs os] (.p (.sl 1 (ints (dep gs)))) := by
  refine pure_of Try.func36 rfl Try.ntmps36 (by simp) fun F n hF hn hn0 => ?_
  have hdl := dep_len hv hgs
  unfold circA
  repeat' (first
    | (refine sw_seq ?_) | (refine sw_block ?_) | (refine sw_skip ?_) | (refine sw_ret ?_) | (refine sw_exit ?_)
    | (refine n_then ?_) | (refine r_then ?_) | (refine e_then ?_) | (refine n_block ?_) | (refine r_block ?_) | (refine e_block ?_) | (refine o_block rfl ?_)
    | (refine sw_run (by simp [-getElem?_pos, List.getElem?_cons_zero, List.getElem?_cons_succ, ]; exact Is.mk _) ?_)
    | (refine sw_true (by simp [-getElem?_pos, List.getElem?_cons_zero, List.getElem?_cons_succ, ]; exact Is.mk _) ?_) | (refine sw_false (by simp [-getElem?_pos, List.getElem?_cons_zero, List.getElem?_cons_succ, ]; exact Is.mk _) ?_)
    | (refine sw_yes (by simp; exact Is.mk _) (by assumption) ?_)
    | (refine sw_no (by simp; exact Is.mk _) (by assumption) ?_)
    | (refine sw_if (by simp; exact Is.mk _) (fun _ => ?_) (fun _ => ?_)))
  refine sw_loopI (α := Nat × List Int) (fun x => [(1, .ptr n 0 0 0), (3, .own (n + 1) x.1 0 x.1), (4, ai x.1)]) (fun x => [(n + 1, .row x.1 3 1 (rints x.2)), (n, circB p gs os)]) (fun _ => n + 2)
    (fun x => x.1 ≤ gs.length ∧ x.2.length = x.1 ∧ x.2 = (dep gs).take x.1) (fun x => gs.length - x.1) (0, []) (by simp) ?_ ?_ ?_
  · intro _
    refine weak_adopt_hp (id := n + 1) (sz := 1) (e := 3) (by simp [hn]) (by simp [ints, pcells]) (by simp [conv, convT, nilA]) ?_ (by simp)
    simp
  · intro x
    exact fresh_of hF (by omega) (by simp)
  · rintro ⟨k, out⟩ ⟨hk, hlen, hout⟩
    simp only at hk hlen hout ⊢
    by_cases hlt : k < gs.length
    · obtain ⟨g, hg⟩ := get_lt hlt
      have hgg : gs[k] = g := by rw [List.getElem?_eq_getElem hlt] at hg; exact Option.some.inj hg
      have hw := wrap_succ hlt hgs
      have hof : ∀ m : Nat, m < k → out[m]? = some ((dep gs).getD m 0) := fun m hm => by
        obtain ⟨v, hv⟩ := get_lt (l := dep gs) (k := m) (by omega)
        rw [hout, List.getElem?_take, if_pos hm, List.getD_eq_getElem?_getD, hv]; rfl
      have hks : Small (namedL g).length := Small.mk (by unfold namedL; split <;> (try split) <;> simp)
      repeat' (first
        | (refine sw_seq ?_) | (refine sw_block ?_) | (refine sw_skip ?_) | (refine sw_ret ?_) | (refine sw_exit ?_)
        | (refine n_then ?_) | (refine r_then ?_) | (refine e_then ?_) | (refine n_block ?_) | (refine r_block ?_) | (refine e_block ?_) | (refine o_block rfl ?_)
        | (refine sw_run (by simp [-getElem?_pos, List.getElem?_cons_zero, List.getElem?_cons_succ, hg, gateC, hlt, hgg]; exact Is.mk _) ?_)
        | (refine sw_true (by simp [-getElem?_pos, List.getElem?_cons_zero, List.getElem?_cons_succ, hg, gateC, hlt, hgg]; exact Is.mk _) ?_) | (refine sw_false (by simp [-getElem?_pos, List.getElem?_cons_zero, List.getElem?_cons_succ, hg, gateC, hlt, hgg]; exact Is.mk _) ?_)
        | (refine sw_yes (by simp; exact Is.mk _) (by assumption) ?_)
        | (refine sw_no (by simp; exact Is.mk _) (by assumption) ?_)
        | (refine sw_if (by simp; exact Is.mk _) (fun _ => ?_) (fun _ => ?_)))
      refine sw_ss ?_
      repeat (refine ss_op rfl (by simp [-getElem?_pos, List.getElem?_cons_zero, List.getElem?_cons_succ, hg, gateC, hlt, hgg]; exact Is.mk _) ?_)
      refine ss_pure rfl rfl rfl (by simp [-getElem?_pos, List.getElem?_cons_zero, List.getElem?_cons_succ]; exact Is.mk _) (by kernel_rfl) (names_spec g) ?_
      refine ss_all (by simp [-getElem?_pos, List.getElem?_cons_zero, List.getElem?_cons_succ, ]; exact Is.mk _) ?_
      repeat' (first
        | (refine sw_seq ?_) | (refine sw_block ?_) | (refine sw_skip ?_) | (refine sw_ret ?_) | (refine sw_exit ?_)
        | (refine n_then ?_) | (refine r_then ?_) | (refine e_then ?_) | (refine n_block ?_) | (refine r_block ?_) | (refine e_block ?_) | (refine o_block rfl ?_)
        | (refine sw_run (by simp [-getElem?_pos, List.getElem?_cons_zero, List.getElem?_cons_succ, ]; exact Is.mk _) ?_)
        | (refine sw_true (by simp [-getElem?_pos, List.getElem?_cons_zero, List.getElem?_cons_succ, ]; exact Is.mk _) ?_) | (refine sw_false (by simp [-getElem?_pos, List.getElem?_cons_zero, List.getElem?_cons_succ, ]; exact Is.mk _) ?_)
        | (refine sw_yes (by simp; exact Is.mk _) (by assumption) ?_)
        | (refine sw_no (by simp; exact Is.mk _) (by assumption) ?_)
        | (refine sw_if (by simp; exact Is.mk _) (fun _ => ?_) (fun _ => ?_)))
      refine sw_loopI (α := Nat × Int) (fun x => [(1, .ptr n 0 0 0), (3, .own (n + 1) k 0 k), (4, ai k), (5, ai x.2), (6, .p (.sl 1 (ints (namedL g)))), (7, ai x.1)]) (fun _ => [(n + 1, .row k 3 1 (rints out)), (n, circB p gs os)]) (fun _ => n + 2)
        (fun x => x.1 ≤ (namedL g).length ∧ 0 ≤ x.2 ∧ max x.2 (mxL (fun q => (dep gs).getD q.toNat 0) ((namedL g).drop x.1)) = mxL (fun q => (dep gs).getD q.toNat 0) (namedL g)) (fun x => (namedL g).length - x.1) (0, 0)
        ⟨Nat.zero_le _, Int.le_refl _, by have := mxL_nonneg (fun q => (dep gs).getD q.toNat 0) (namedL g); simp only [List.drop_zero]; omega⟩ ?_ ?_ ?_
      · intro _
        exact weak_cut_hp (by simp) (by simp) (by simp)
      · intro x
        exact fresh_of hF (by omega) (by simp)
      · rintro ⟨j, d⟩ ⟨hj, hd, hm⟩
        simp only at hj hd hm ⊢
        by_cases hjl : j < (namedL g).length
        · obtain ⟨x, hx⟩ := get_lt hjl
          have hwj := wrap_succ hjl hks
          have hxk := hv k g hg x (List.mem_of_getElem? hx)
          rw [drop_cons hx] at hm
          simp only [mxL] at hm
          obtain ⟨m, rfl⟩ : ∃ m : Nat, x = m := ⟨x.toNat, by omega⟩
          have hmk : m < k := by omega
          have hom := hof m hmk
          rw [Int.toNat_natCast] at hm
          generalize (dep gs).getD m 0 = v at hm hom
          by_cases c : d < v
          · repeat' (first
              | (refine sw_seq ?_) | (refine sw_block ?_) | (refine sw_skip ?_) | (refine sw_ret ?_) | (refine sw_exit ?_)
              | (refine n_then ?_) | (refine r_then ?_) | (refine e_then ?_) | (refine n_block ?_) | (refine r_block ?_) | (refine e_block ?_) | (refine o_block rfl ?_)
              | (refine sw_run (by simp [-getElem?_pos, List.getElem?_cons_zero, List.getElem?_cons_succ, hx, hjl, hmk, hom, hwj, c]; exact Is.mk _) ?_)
              | (refine sw_true (by simp [-getElem?_pos, List.getElem?_cons_zero, List.getElem?_cons_succ, hx, hjl, hmk, hom, hwj, c]; exact Is.mk _) ?_) | (refine sw_false (by simp [-getElem?_pos, List.getElem?_cons_zero, List.getElem?_cons_succ, hx, hjl, hmk, hom, hwj, c]; exact Is.mk _) ?_)
              | (refine sw_yes (by simp; exact Is.mk _) (by assumption) ?_)
              | (refine sw_no (by simp; exact Is.mk _) (by assumption) ?_)
              | (refine sw_if (by simp; exact Is.mk _) (fun _ => ?_) (fun _ => ?_)))
            exact ⟨(j + 1, v), ⟨by simp only; omega, by simp only; omega, by simp only; omega⟩, by simp only; omega, weak_cut_hp (by simp) (by simp) (by simp)⟩
          · repeat' (first
              | (refine sw_seq ?_) | (refine sw_block ?_) | (refine sw_skip ?_) | (refine sw_ret ?_) | (refine sw_exit ?_)
              | (refine n_then ?_) | (refine r_then ?_) | (refine e_then ?_) | (refine n_block ?_) | (refine r_block ?_) | (refine e_block ?_) | (refine o_block rfl ?_)
              | (refine sw_run (by simp [-getElem?_pos, List.getElem?_cons_zero, List.getElem?_cons_succ, hx, hjl, hmk, hom, hwj, c]; exact Is.mk _) ?_)
              | (refine sw_true (by simp [-getElem?_pos, List.getElem?_cons_zero, List.getElem?_cons_succ, hx, hjl, hmk, hom, hwj, c]; exact Is.mk _) ?_) | (refine sw_false (by simp [-getElem?_pos, List.getElem?_cons_zero, List.getElem?_cons_succ, hx, hjl, hmk, hom, hwj, c]; exact Is.mk _) ?_)
              | (refine sw_yes (by simp; exact Is.mk _) (by assumption) ?_)
              | (refine sw_no (by simp; exact Is.mk _) (by assumption) ?_)
              | (refine sw_if (by simp; exact Is.mk _) (fun _ => ?_) (fun _ => ?_)))
            exact ⟨(j + 1, d), ⟨by simp only; omega, by simp only; omega, by simp only; omega⟩, by simp only; omega, weak_cut_hp (by simp) (by simp) (by simp)⟩
        · obtain rfl : j = (namedL g).length := by omega
          simp only [List.drop_length, mxL] at hm
          have hde := dep_eq hv hgs hg
          have hbd := dep_bd hv hgs hlt
          have hkd : k < (dep gs).length := by omega
          have hsm : Small (k + 1) := Small.mk (by have := hgs.lt; omega)
          have happ : out ++ [(dep gs).getD k 0] = (dep gs).take (k + 1) := by
            obtain ⟨v, hv⟩ := get_lt hkd
            rw [take_snoc hv, hout, List.getD_eq_getElem?_getD, hv]; rfl
          by_cases h6 : g.kind = 6
          · rw [if_pos h6] at hde
            have hwd : IntKind.i64.wrap (d + 1) = (dep gs).getD k 0 := by rw [i64_in (by have := hgs.lt; omega)]; omega
            repeat' (first
              | (refine sw_seq ?_) | (refine sw_block ?_) | (refine sw_skip ?_) | (refine sw_ret ?_) | (refine sw_exit ?_)
              | (refine n_then ?_) | (refine r_then ?_) | (refine e_then ?_) | (refine n_block ?_) | (refine r_block ?_) | (refine e_block ?_) | (refine o_block rfl ?_)
              | (refine sw_run (by simp [-getElem?_pos, List.getElem?_cons_zero, List.getElem?_cons_succ, hg, gateC, h6, hw, hlt, hgg, hwd, hsm, hlen]; exact Is.mk _) ?_)
              | (refine sw_true (by simp [-getElem?_pos, List.getElem?_cons_zero, List.getElem?_cons_succ, hg, gateC, h6, hw, hlt, hgg, hwd, hsm, hlen]; exact Is.mk _) ?_) | (refine sw_false (by simp [-getElem?_pos, List.getElem?_cons_zero, List.getElem?_cons_succ, hg, gateC, h6, hw, hlt, hgg, hwd, hsm, hlen]; exact Is.mk _) ?_)
              | (refine sw_yes (by simp; exact Is.mk _) (by assumption) ?_)
              | (refine sw_no (by simp; exact Is.mk _) (by assumption) ?_)
              | (refine sw_if (by simp; exact Is.mk _) (fun _ => ?_) (fun _ => ?_)))
            exact ⟨(k + 1, out ++ [(dep gs).getD k 0]), ⟨by simp only; omega, by simp [hlen], happ⟩, by simp only; omega, weak_cut_hp (by simp) (by simp [rints_app]) (by simp [hn, hn0])⟩
          · rw [if_neg h6] at hde
            have hwd : d = (dep gs).getD k 0 := by omega
            subst hwd
            repeat' (first
              | (refine sw_seq ?_) | (refine sw_block ?_) | (refine sw_skip ?_) | (refine sw_ret ?_) | (refine sw_exit ?_)
              | (refine n_then ?_) | (refine r_then ?_) | (refine e_then ?_) | (refine n_block ?_) | (refine r_block ?_) | (refine e_block ?_) | (refine o_block rfl ?_)
              | (refine sw_run (by simp [-getElem?_pos, List.getElem?_cons_zero, List.getElem?_cons_succ, hg, gateC, h6, hw, hlt, hgg, hsm, hlen]; exact Is.mk _) ?_)
              | (refine sw_true (by simp [-getElem?_pos, List.getElem?_cons_zero, List.getElem?_cons_succ, hg, gateC, h6, hw, hlt, hgg, hsm, hlen]; exact Is.mk _) ?_) | (refine sw_false (by simp [-getElem?_pos, List.getElem?_cons_zero, List.getElem?_cons_succ, hg, gateC, h6, hw, hlt, hgg, hsm, hlen]; exact Is.mk _) ?_)
              | (refine sw_yes (by simp; exact Is.mk _) (by assumption) ?_)
              | (refine sw_no (by simp; exact Is.mk _) (by assumption) ?_)
              | (refine sw_if (by simp; exact Is.mk _) (fun _ => ?_) (fun _ => ?_)))
            exact ⟨(k + 1, out ++ [(dep gs).getD k 0]), ⟨by simp only; omega, by simp [hlen], happ⟩, by simp only; omega, weak_cut_hp (by simp) (by simp [rints_app]) (by simp [hn, hn0])⟩
    · obtain rfl : k = gs.length := by omega
      repeat' (first
        | (refine sw_seq ?_) | (refine sw_block ?_) | (refine sw_skip ?_) | (refine sw_ret ?_) | (refine sw_exit ?_)
        | (refine n_then ?_) | (refine r_then ?_) | (refine e_then ?_) | (refine n_block ?_) | (refine r_block ?_) | (refine e_block ?_) | (refine o_block rfl ?_)
        | (refine sw_run (by simp [-getElem?_pos, List.getElem?_cons_zero, List.getElem?_cons_succ, ]; exact Is.mk _) ?_)
        | (refine sw_true (by simp [-getElem?_pos, List.getElem?_cons_zero, List.getElem?_cons_succ, ]; exact Is.mk _) ?_) | (refine sw_false (by simp [-getElem?_pos, List.getElem?_cons_zero, List.getElem?_cons_succ, ]; exact Is.mk _) ?_)
        | (refine sw_yes (by simp; exact Is.mk _) (by assumption) ?_)
        | (refine sw_no (by simp; exact Is.mk _) (by assumption) ?_)
        | (refine sw_if (by simp; exact Is.mk _) (fun _ => ?_) (fun _ => ?_)))
      exact end_own (es := ints out) (by simp; exact Is.mk _) (by simp; exact Is.mk _) rfl (by simp [hlen]) (hn 1) (by simp [hn0, hn]) ⟨rfl, by rw [hout, ← hdl, List.take_length]⟩

end Go.AM
