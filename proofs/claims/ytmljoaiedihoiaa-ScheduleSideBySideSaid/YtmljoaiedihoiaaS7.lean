/- The reference's Valid. -/
import Derived.Test.YtmljoaiedihoiaaS6
namespace Go.AM
set_option linter.unusedVariables false
set_option linter.unusedSimpArgs false
open Go Go.RowKit Go.Proofs

set_option maxHeartbeats 4000000 in
theorem rvalid_spec (p : Int) (gs : List Gate) (os : List Int) (l : List (List Int)) (hgs : Small gs.length) (hv : opsOk gs) (hl : Small l.length) (hll : ∀ x ∈ l, Small x.length) :
    Pure Try.prog 13 [circA p gs os, schedA l] (ab (validS gs l)) := by
  refine pure_of Try.func13 rfl Try.ntmps13 (by simp) fun F n hF hn hn0 => ?_
  unfold circA schedA
  repeat' (first
    | (refine sw_seq ?_) | (refine sw_block ?_) | (refine sw_skip ?_) | (refine sw_ret ?_) | (refine sw_exit ?_)
    | (refine n_then ?_) | (refine r_then ?_) | (refine e_then ?_) | (refine n_block ?_) | (refine r_block ?_) | (refine e_block ?_) | (refine o_block rfl ?_)
    | (refine sw_run (by simp [hgs]; exact Is.mk _) ?_)
    | (refine sw_true (by simp [hgs]; exact Is.mk _) ?_) | (refine sw_false (by simp [hgs]; exact Is.mk _) ?_)
    | (refine sw_yes (by simp; exact Is.mk _) (by assumption) ?_)
    | (refine sw_no (by simp; exact Is.mk _) (by assumption) ?_)
    | (refine sw_if (by simp; exact Is.mk _) (fun _ => ?_) (fun _ => ?_)))
  refine sw_loopI (α := Nat × List Int) (fun x => [(2, .ptr n 0 0 0), (3, .ptr (n + 1) 0 0 0), (5, .own (n + 2) 0 0 gs.length), (6, ai x.1)])
    (fun x => [(n + 2, .row 0 3 1 (rints x.2)), (n + 1, schedB l), (n, circB p gs os)]) (fun _ => n + 3)
    (fun x => x.1 ≤ l.length ∧ x.2.length = gs.length ∧ placeAll gs x.2 x.1 (l.drop x.1) = placeAll gs (List.replicate gs.length 0) 0 l) (fun x => l.length - x.1) (0, List.replicate gs.length 0) (by simp) ?_ ?_ ?_
  · intro _
    exact weak_cut_hp (by simp) (by simp [rints_zero]) (by simp)
  · intro x
    exact fresh_of hF (by omega) (by simp)
  · rintro ⟨d, out⟩ ⟨hd, hlen, hR⟩
    simp only at hd hlen hR ⊢
    by_cases hlt : d < l.length
    · obtain ⟨y, hy⟩ := get_lt hlt
      have hyl : Small y.length := hll y (List.mem_of_getElem? hy)
      have hw := wrap_succ hlt hl
      rw [drop_cons hy] at hR
      simp only [placeAll] at hR
      repeat' (first
        | (refine sw_seq ?_) | (refine sw_block ?_) | (refine sw_skip ?_) | (refine sw_ret ?_) | (refine sw_exit ?_)
        | (refine n_then ?_) | (refine r_then ?_) | (refine e_then ?_) | (refine n_block ?_) | (refine r_block ?_) | (refine e_block ?_) | (refine o_block rfl ?_)
        | (refine sw_run (by simp [hy]; exact Is.mk _) ?_)
        | (refine sw_true (by simp [hy]; exact Is.mk _) ?_) | (refine sw_false (by simp [hy]; exact Is.mk _) ?_)
        | (refine sw_yes (by simp; exact Is.mk _) (by assumption) ?_)
        | (refine sw_no (by simp; exact Is.mk _) (by assumption) ?_)
        | (refine sw_if (by simp; exact Is.mk _) (fun _ => ?_) (fun _ => ?_)))
      refine sw_loopI (α := Nat × List Int) (fun z => [(2, .ptr n 0 0 0), (3, .ptr (n + 1) 0 0 0), (5, .own (n + 2) 0 0 gs.length), (6, ai d), (7, ai z.1)])
        (fun z => [(n + 2, .row 0 3 1 (rints z.2)), (n + 1, schedB l), (n, circB p gs os)]) (fun _ => n + 3)
        (fun z => z.1 ≤ y.length ∧ z.2.length = gs.length ∧ ((placeLayer gs z.2 d (y.drop z.1)).bind fun o => placeAll gs o (d + 1) (l.drop (d + 1))) = placeAll gs (List.replicate gs.length 0) 0 l) (fun z => y.length - z.1) (0, out) (by simp only [List.drop_zero]; exact ⟨Nat.zero_le _, hlen, hR⟩) ?_ ?_ ?_
      · intro _
        exact weak_cut_hp (by simp) (by simp) (by simp)
      · intro x
        exact fresh_of hF (by omega) (by simp)
      · rintro ⟨j, o⟩ ⟨hj, hlen2, hR2⟩
        simp only at hj hlen2 hR2 ⊢
        by_cases hjl : j < y.length
        · obtain ⟨i, hi⟩ := get_lt hjl
          have hwj := wrap_succ hjl hyl
          rw [drop_cons hi] at hR2
          simp only [placeLayer] at hR2
          by_cases c1 : i < 0
          · rw [placeOne_none (by omega)] at hR2
            simp only [Option.bind_none] at hR2
            repeat' (first
              | (refine sw_seq ?_) | (refine sw_block ?_) | (refine sw_skip ?_) | (refine sw_ret ?_) | (refine sw_exit ?_)
              | (refine n_then ?_) | (refine r_then ?_) | (refine e_then ?_) | (refine n_block ?_) | (refine r_block ?_) | (refine e_block ?_) | (refine o_block rfl ?_)
              | (refine sw_run (by simp [hy, hi, c1]; exact Is.mk _) ?_)
              | (refine sw_true (by simp [hy, hi, c1]; exact Is.mk _) ?_) | (refine sw_false (by simp [hy, hi, c1]; exact Is.mk _) ?_)
              | (refine sw_yes (by simp; exact Is.mk _) (by assumption) ?_)
              | (refine sw_no (by simp; exact Is.mk _) (by assumption) ?_)
              | (refine sw_if (by simp; exact Is.mk _) (fun _ => ?_) (fun _ => ?_)))
            exact end_val (by simp; exact Is.mk _) (by simp [hn0, hn]) ⟨rfl, by simp [validS, ← hR2]⟩
          · by_cases c2 : (gs.length : Int) ≤ i
            · rw [placeOne_none (by omega)] at hR2
              simp only [Option.bind_none] at hR2
              repeat' (first
                | (refine sw_seq ?_) | (refine sw_block ?_) | (refine sw_skip ?_) | (refine sw_ret ?_) | (refine sw_exit ?_)
                | (refine n_then ?_) | (refine r_then ?_) | (refine e_then ?_) | (refine n_block ?_) | (refine r_block ?_) | (refine e_block ?_) | (refine o_block rfl ?_)
                | (refine sw_run (by simp [hy, hi, c1, c2]; exact Is.mk _) ?_)
                | (refine sw_true (by simp [hy, hi, c1, c2]; exact Is.mk _) ?_) | (refine sw_false (by simp [hy, hi, c1, c2]; exact Is.mk _) ?_)
                | (refine sw_yes (by simp; exact Is.mk _) (by assumption) ?_)
                | (refine sw_no (by simp; exact Is.mk _) (by assumption) ?_)
                | (refine sw_if (by simp; exact Is.mk _) (fun _ => ?_) (fun _ => ?_)))
              exact end_val (by simp; exact Is.mk _) (by simp [hn0, hn]) ⟨rfl, by simp [validS, ← hR2]⟩
            · obtain ⟨i, rfl⟩ : ∃ m : Nat, i = m := ⟨i.toNat, by omega⟩
              have hil : i < gs.length := by omega
              have hig : ¬ gs.length ≤ i := by omega
              obtain ⟨g, hg⟩ := get_lt hil
              have hgg : gs[i] = g := by rw [List.getElem?_eq_getElem hil] at hg; exact Option.some.inj hg
              obtain ⟨v, hv⟩ := get_lt (l := o) (k := i) (by omega)
              by_cases c3 : g.kind = 6
              · by_cases c4 : v = 0
                · have e : placeOne gs o d i = some (o.set i (d + 1)) := by unfold placeOne; rw [if_pos ⟨by omega, by omega, by simp only [Int.toNat_natCast, hg, Option.map_some, c3], by simp only [Int.toNat_natCast, hv, c4]⟩]; simp
                  rw [e] at hR2
                  simp only [Option.bind_some] at hR2
                  subst c4
                  repeat' (first
                    | (refine sw_seq ?_) | (refine sw_block ?_) | (refine sw_skip ?_) | (refine sw_ret ?_) | (refine sw_exit ?_)
                    | (refine n_then ?_) | (refine r_then ?_) | (refine e_then ?_) | (refine n_block ?_) | (refine r_block ?_) | (refine e_block ?_) | (refine o_block rfl ?_)
                    | (refine sw_run (by simp [hy, hi, c1, hig, hil, hg, hgg, gateC, hv, c3, hw, hwj]; exact Is.mk _) ?_)
                    | (refine sw_true (by simp [hy, hi, c1, hig, hil, hg, hgg, gateC, hv, c3, hw, hwj]; exact Is.mk _) ?_) | (refine sw_false (by simp [hy, hi, c1, hig, hil, hg, hgg, gateC, hv, c3, hw, hwj]; exact Is.mk _) ?_)
                    | (refine sw_yes (by simp; exact Is.mk _) (by assumption) ?_)
                    | (refine sw_no (by simp; exact Is.mk _) (by assumption) ?_)
                    | (refine sw_if (by simp; exact Is.mk _) (fun _ => ?_) (fun _ => ?_)))
                  exact ⟨(j + 1, o.set i (d + 1)), ⟨by simp only; omega, by simp [hlen2], hR2⟩, by simp only; omega, weak_cut_hp (by simp) (by simp [rints_set]) (by simp)⟩
                · rw [placeOne_none (by simp [hv, c4])] at hR2
                  simp only [Option.bind_none] at hR2
                  repeat' (first
                    | (refine sw_seq ?_) | (refine sw_block ?_) | (refine sw_skip ?_) | (refine sw_ret ?_) | (refine sw_exit ?_)
                    | (refine n_then ?_) | (refine r_then ?_) | (refine e_then ?_) | (refine n_block ?_) | (refine r_block ?_) | (refine e_block ?_) | (refine o_block rfl ?_)
                    | (refine sw_run (by simp [hy, hi, c1, hig, hil, hg, hgg, gateC, hv, c3, c4]; exact Is.mk _) ?_)
                    | (refine sw_true (by simp [hy, hi, c1, hig, hil, hg, hgg, gateC, hv, c3, c4]; exact Is.mk _) ?_) | (refine sw_false (by simp [hy, hi, c1, hig, hil, hg, hgg, gateC, hv, c3, c4]; exact Is.mk _) ?_)
                    | (refine sw_yes (by simp; exact Is.mk _) (by assumption) ?_)
                    | (refine sw_no (by simp; exact Is.mk _) (by assumption) ?_)
                    | (refine sw_if (by simp; exact Is.mk _) (fun _ => ?_) (fun _ => ?_)))
                  exact end_val (by simp; exact Is.mk _) (by simp [hn0, hn]) ⟨rfl, by simp [validS, ← hR2]⟩
              · rw [placeOne_none (by simp [hg, c3])] at hR2
                simp only [Option.bind_none] at hR2
                repeat' (first
                  | (refine sw_seq ?_) | (refine sw_block ?_) | (refine sw_skip ?_) | (refine sw_ret ?_) | (refine sw_exit ?_)
                  | (refine n_then ?_) | (refine r_then ?_) | (refine e_then ?_) | (refine n_block ?_) | (refine r_block ?_) | (refine e_block ?_) | (refine o_block rfl ?_)
                  | (refine sw_run (by simp [hy, hi, c1, hig, hil, hg, hgg, gateC, hv, c3]; exact Is.mk _) ?_)
                  | (refine sw_true (by simp [hy, hi, c1, hig, hil, hg, hgg, gateC, hv, c3]; exact Is.mk _) ?_) | (refine sw_false (by simp [hy, hi, c1, hig, hil, hg, hgg, gateC, hv, c3]; exact Is.mk _) ?_)
                  | (refine sw_yes (by simp; exact Is.mk _) (by assumption) ?_)
                  | (refine sw_no (by simp; exact Is.mk _) (by assumption) ?_)
                  | (refine sw_if (by simp; exact Is.mk _) (fun _ => ?_) (fun _ => ?_)))
                exact end_val (by simp; exact Is.mk _) (by simp [hn0, hn]) ⟨rfl, by simp [validS, ← hR2]⟩
        · obtain rfl : j = y.length := by omega
          simp only [List.drop_length, placeLayer, Option.bind_some] at hR2
          repeat' (first
            | (refine sw_seq ?_) | (refine sw_block ?_) | (refine sw_skip ?_) | (refine sw_ret ?_) | (refine sw_exit ?_)
            | (refine n_then ?_) | (refine r_then ?_) | (refine e_then ?_) | (refine n_block ?_) | (refine r_block ?_) | (refine e_block ?_) | (refine o_block rfl ?_)
            | (refine sw_run (by simp [hy, hw]; exact Is.mk _) ?_)
            | (refine sw_true (by simp [hy, hw]; exact Is.mk _) ?_) | (refine sw_false (by simp [hy, hw]; exact Is.mk _) ?_)
            | (refine sw_yes (by simp; exact Is.mk _) (by assumption) ?_)
            | (refine sw_no (by simp; exact Is.mk _) (by assumption) ?_)
            | (refine sw_if (by simp; exact Is.mk _) (fun _ => ?_) (fun _ => ?_)))
          exact ⟨(d + 1, o), ⟨by simp only; omega, hlen2, by simpa using hR2⟩, by simp only; omega, weak_cut_hp (by simp) (by simp) (by simp)⟩
    · obtain rfl : d = l.length := by omega
      simp only [List.drop_length, placeAll] at hR
      have hal : out.length = gs.length := hlen
      repeat' (first
        | (refine sw_seq ?_) | (refine sw_block ?_) | (refine sw_skip ?_) | (refine sw_ret ?_) | (refine sw_exit ?_)
        | (refine n_then ?_) | (refine r_then ?_) | (refine e_then ?_) | (refine n_block ?_) | (refine r_block ?_) | (refine e_block ?_) | (refine o_block rfl ?_)
        | (refine sw_run (by simp [hgs]; exact Is.mk _) ?_)
        | (refine sw_true (by simp [hgs]; exact Is.mk _) ?_) | (refine sw_false (by simp [hgs]; exact Is.mk _) ?_)
        | (refine sw_yes (by simp; exact Is.mk _) (by assumption) ?_)
        | (refine sw_no (by simp; exact Is.mk _) (by assumption) ?_)
        | (refine sw_if (by simp; exact Is.mk _) (fun _ => ?_) (fun _ => ?_)))
      refine sw_loopI (α := Nat × List Int) (fun x => [(2, .ptr n 0 0 0), (3, .ptr (n + 1) 0 0 0), (5, .own (n + 2) 0 0 gs.length), (9, .own (n + 3) 0 0 gs.length), (10, ai x.1)])
        (fun x => [(n + 3, .row 0 3 1 (rints x.2)), (n + 2, .row 0 3 1 (rints out)), (n + 1, schedB l), (n, circB p gs os)]) (fun _ => n + 4)
        (fun x => x.1 ≤ gs.length ∧ x.2.length = gs.length ∧ validFrom out x.2 x.1 (gs.drop x.1) = validFrom out (List.replicate gs.length 0) 0 gs) (fun x => gs.length - x.1) (0, List.replicate gs.length 0) (by simp) ?_ ?_ ?_
      · intro _
        exact weak_cut_hp (by simp) (by simp [rints_zero]) (by simp)
      · intro x
        exact fresh_of hF (by omega) (by simp)
      · rintro ⟨k, la⟩ ⟨hk, hlen3, hR3⟩
        simp only at hk hlen3 hR3 ⊢
        by_cases hlt : k < gs.length
        · obtain ⟨g, hg⟩ := get_lt hlt
          have hgg : gs[k] = g := by rw [List.getElem?_eq_getElem hlt] at hg; exact Option.some.inj hg
          rw [drop_cons hg] at hR3
          simp only [validFrom] at hR3
          repeat' (first
            | (refine sw_seq ?_) | (refine sw_block ?_) | (refine sw_skip ?_) | (refine sw_ret ?_) | (refine sw_exit ?_)
            | (refine n_then ?_) | (refine r_then ?_) | (refine e_then ?_) | (refine n_block ?_) | (refine r_block ?_) | (refine e_block ?_) | (refine o_block rfl ?_)
            | (refine sw_run (by simp [hg, gateC]; exact Is.mk _) ?_)
            | (refine sw_true (by simp [hg, gateC]; exact Is.mk _) ?_) | (refine sw_false (by simp [hg, gateC]; exact Is.mk _) ?_)
            | (refine sw_yes (by simp; exact Is.mk _) (by assumption) ?_)
            | (refine sw_no (by simp; exact Is.mk _) (by assumption) ?_)
            | (refine sw_if (by simp; exact Is.mk _) (fun _ => ?_) (fun _ => ?_)))
          refine sw_ss ?_
          repeat (refine ss_op rfl (by simp [hg, gateC]; exact Is.mk _) ?_)
          refine ss_pure rfl rfl rfl (by simp; exact Is.mk _) (by kernel_rfl) (names_spec g) ?_
          refine ss_all (by simp []; exact Is.mk _) ?_
          repeat' (first
            | (refine sw_seq ?_) | (refine sw_block ?_) | (refine sw_skip ?_) | (refine sw_ret ?_) | (refine sw_exit ?_)
            | (refine n_then ?_) | (refine r_then ?_) | (refine e_then ?_) | (refine n_block ?_) | (refine r_block ?_) | (refine e_block ?_) | (refine o_block rfl ?_)
            | (refine sw_run (by simp []; exact Is.mk _) ?_)
            | (refine sw_true (by simp []; exact Is.mk _) ?_) | (refine sw_false (by simp []; exact Is.mk _) ?_)
            | (refine sw_yes (by simp; exact Is.mk _) (by assumption) ?_)
            | (refine sw_no (by simp; exact Is.mk _) (by assumption) ?_)
            | (refine sw_if (by simp; exact Is.mk _) (fun _ => ?_) (fun _ => ?_)))
          refine sw_loopI (α := Nat × List Int) (fun y => [(2, .ptr n 0 0 0), (3, .ptr (n + 1) 0 0 0), (5, .own (n + 2) 0 0 gs.length), (9, .own (n + 3) 0 0 gs.length), (10, ai k), (11, .p (.sl 1 (ints (namedL g)))), (12, ai y.1)])
            (fun y => [(n + 3, .row 0 3 1 (rints y.2)), (n + 2, .row 0 3 1 (rints out)), (n + 1, schedB l), (n, circB p gs os)]) (fun _ => n + 4)
            (fun y => y.1 ≤ (namedL g).length ∧ y.2.length = gs.length ∧ depIn y.2 k ((namedL g).drop y.1) = depIn la k (namedL g)) (fun y => (namedL g).length - y.1) (0, la) (by simp [hlen3]) ?_ ?_ ?_
          · intro _
            exact weak_cut_hp (by simp) (by simp) (by simp)
          · intro x
            exact fresh_of hF (by omega) (by simp)
          · rintro ⟨j, o2⟩ ⟨hj, hlen2, hdep2⟩
            simp only at hj hlen2 hdep2 ⊢
            by_cases hjl : j < (namedL g).length
            · obtain ⟨q, hq⟩ : ∃ q, (namedL g)[j]? = some q := ⟨(namedL g)[j], List.getElem?_eq_getElem hjl⟩
              obtain ⟨hq0, hq1⟩ := hv k g hg q (List.mem_of_getElem? hq)
              obtain ⟨q, rfl⟩ : ∃ m : Nat, q = m := ⟨q.toNat, by omega⟩
              obtain ⟨v1, hv1⟩ : ∃ v, o2[k]? = some v := ⟨o2[k], List.getElem?_eq_getElem (by omega)⟩
              obtain ⟨v2, hv2⟩ : ∃ v, o2[q]? = some v := ⟨o2[q], List.getElem?_eq_getElem (by omega)⟩
              have hqk : q < gs.length := by omega
              have hw : IntKind.i64.wrap ((j : Int) + 1) = ((j + 1 : Nat) : Int) := by rw [i64_in (by have := hgs.lt; unfold namedL at hjl; split at hjl <;> (try split at hjl) <;> simp at hjl <;> omega)]; simp
              have hself : o2.set k v1 = o2 := by
                apply List.ext_getElem?
                intro m
                rw [List.getElem?_set]
                split
                · rename_i e; subst e; rw [hv1]; split <;> simp_all
                · rfl
              by_cases hc : v1 < v2
              · repeat' (first
                  | (refine sw_seq ?_) | (refine sw_block ?_) | (refine sw_skip ?_) | (refine sw_ret ?_) | (refine sw_exit ?_)
                  | (refine n_then ?_) | (refine r_then ?_) | (refine e_then ?_) | (refine n_block ?_) | (refine r_block ?_) | (refine e_block ?_) | (refine o_block rfl ?_)
                  | (refine sw_run (by simp [hq]; exact Is.mk _) ?_)
                  | (refine sw_true (by simp [hq]; exact Is.mk _) ?_) | (refine sw_false (by simp [hq]; exact Is.mk _) ?_)
                  | (refine sw_yes (by simp; exact Is.mk _) (by assumption) ?_)
                  | (refine sw_no (by simp; exact Is.mk _) (by assumption) ?_)
                  | (refine sw_if (by simp; exact Is.mk _) (fun _ => ?_) (fun _ => ?_)))
                refine sw_draw mixed (by kernel_rfl) rfl (ds_all (by simp [hq, hlt, hqk, hv1, hv2]; exact Is.mk _) (disAll_quiet (by simp)) ?_)
                repeat' (first
                  | (refine sw_seq ?_) | (refine sw_block ?_) | (refine sw_skip ?_) | (refine sw_ret ?_) | (refine sw_exit ?_)
                  | (refine n_then ?_) | (refine r_then ?_) | (refine e_then ?_) | (refine n_block ?_) | (refine r_block ?_) | (refine e_block ?_) | (refine o_block rfl ?_)
                  | (refine sw_run (by simp [hc, hq, hlt, hqk, hv1, hv2, hw]; exact Is.mk _) ?_)
                  | (refine sw_true (by simp [hc, hq, hlt, hqk, hv1, hv2, hw]; exact Is.mk _) ?_) | (refine sw_false (by simp [hc, hq, hlt, hqk, hv1, hv2, hw]; exact Is.mk _) ?_)
                  | (refine sw_yes (by simp; exact Is.mk _) (by assumption) ?_)
                  | (refine sw_no (by simp; exact Is.mk _) (by assumption) ?_)
                  | (refine sw_if (by simp; exact Is.mk _) (fun _ => ?_) (fun _ => ?_)))
                refine ⟨(j + 1, o2.set k v2), ⟨by simp only; omega, by simp [hlen2], ?_⟩, by simp only; omega, weak_cut_hp (by simp) (by simp [rints_set]) (by simp)⟩
                rw [← hdep2, drop_cons hq]
                simp [depIn, List.getD_eq_getElem?_getD, hv1, hv2, hc]
              · repeat' (first
                  | (refine sw_seq ?_) | (refine sw_block ?_) | (refine sw_skip ?_) | (refine sw_ret ?_) | (refine sw_exit ?_)
                  | (refine n_then ?_) | (refine r_then ?_) | (refine e_then ?_) | (refine n_block ?_) | (refine r_block ?_) | (refine e_block ?_) | (refine o_block rfl ?_)
                  | (refine sw_run (by simp [hq]; exact Is.mk _) ?_)
                  | (refine sw_true (by simp [hq]; exact Is.mk _) ?_) | (refine sw_false (by simp [hq]; exact Is.mk _) ?_)
                  | (refine sw_yes (by simp; exact Is.mk _) (by assumption) ?_)
                  | (refine sw_no (by simp; exact Is.mk _) (by assumption) ?_)
                  | (refine sw_if (by simp; exact Is.mk _) (fun _ => ?_) (fun _ => ?_)))
                refine sw_draw mixed (by kernel_rfl) rfl (ds_all (by simp [hq, hlt, hqk, hv1, hv2]; exact Is.mk _) (disAll_quiet (by simp)) ?_)
                repeat' (first
                  | (refine sw_seq ?_) | (refine sw_block ?_) | (refine sw_skip ?_) | (refine sw_ret ?_) | (refine sw_exit ?_)
                  | (refine n_then ?_) | (refine r_then ?_) | (refine e_then ?_) | (refine n_block ?_) | (refine r_block ?_) | (refine e_block ?_) | (refine o_block rfl ?_)
                  | (refine sw_run (by simp [hc, hw]; exact Is.mk _) ?_)
                  | (refine sw_true (by simp [hc, hw]; exact Is.mk _) ?_) | (refine sw_false (by simp [hc, hw]; exact Is.mk _) ?_)
                  | (refine sw_yes (by simp; exact Is.mk _) (by assumption) ?_)
                  | (refine sw_no (by simp; exact Is.mk _) (by assumption) ?_)
                  | (refine sw_if (by simp; exact Is.mk _) (fun _ => ?_) (fun _ => ?_)))
                refine ⟨(j + 1, o2), ⟨by simp only; omega, by simp [hlen2], ?_⟩, by simp only; omega, weak_cut_hp (by simp) (by simp [rints_set]) (by simp)⟩
                rw [← hdep2, drop_cons hq]
                simp [depIn, List.getD_eq_getElem?_getD, hv1, hv2, hc, hself]
            · have hje : j = (namedL g).length := by omega
              subst hje
              simp only [List.drop_length, depIn] at hdep2
              rw [← hdep2] at hR3
              obtain ⟨v1, hv1⟩ : ∃ v, o2[k]? = some v := ⟨o2[k], List.getElem?_eq_getElem (by omega)⟩
              obtain ⟨a1, ha1⟩ : ∃ v, out[k]? = some v := ⟨out[k], List.getElem?_eq_getElem (by omega)⟩
              have hw := wrap_succ hlt hgs
              simp only [List.getD_eq_getElem?_getD, hv1, ha1, Option.getD_some] at hR3
              by_cases h6 : g.kind = 6
              · rw [if_pos h6] at hR3
                by_cases c1 : a1 = 0
                · rw [if_pos (.inl c1)] at hR3
                  repeat' (first
                    | (refine sw_seq ?_) | (refine sw_block ?_) | (refine sw_skip ?_) | (refine sw_ret ?_) | (refine sw_exit ?_)
                    | (refine n_then ?_) | (refine r_then ?_) | (refine e_then ?_) | (refine n_block ?_) | (refine r_block ?_) | (refine e_block ?_) | (refine o_block rfl ?_)
                    | (refine sw_run (by simp [hg, gateC, h6]; exact Is.mk _) ?_)
                    | (refine sw_true (by simp [hg, gateC, h6]; exact Is.mk _) ?_) | (refine sw_false (by simp [hg, gateC, h6]; exact Is.mk _) ?_)
                    | (refine sw_yes (by simp; exact Is.mk _) (by assumption) ?_)
                    | (refine sw_no (by simp; exact Is.mk _) (by assumption) ?_)
                    | (refine sw_if (by simp; exact Is.mk _) (fun _ => ?_) (fun _ => ?_)))
                  refine sw_draw mixed (by kernel_rfl) rfl (ds_all (by simp [hlt, ha1, hv1, c1]; exact Is.mk _) (disAll_quiet (by simp)) ?_)
                  repeat' (first
                    | (refine sw_seq ?_) | (refine sw_block ?_) | (refine sw_skip ?_) | (refine sw_ret ?_) | (refine sw_exit ?_)
                    | (refine n_then ?_) | (refine r_then ?_) | (refine e_then ?_) | (refine n_block ?_) | (refine r_block ?_) | (refine e_block ?_) | (refine o_block rfl ?_)
                    | (refine sw_run (by simp []; exact Is.mk _) ?_)
                    | (refine sw_true (by simp []; exact Is.mk _) ?_) | (refine sw_false (by simp []; exact Is.mk _) ?_)
                    | (refine sw_yes (by simp; exact Is.mk _) (by assumption) ?_)
                    | (refine sw_no (by simp; exact Is.mk _) (by assumption) ?_)
                    | (refine sw_if (by simp; exact Is.mk _) (fun _ => ?_) (fun _ => ?_)))
                  exact end_val (by simp; exact Is.mk _) (by simp [hn0, hn]) ⟨rfl, by simp [validS, ← hR, ← hR3]⟩
                · by_cases c2 : a1 ≤ v1
                  · rw [if_pos (.inr c2)] at hR3
                    repeat' (first
                      | (refine sw_seq ?_) | (refine sw_block ?_) | (refine sw_skip ?_) | (refine sw_ret ?_) | (refine sw_exit ?_)
                      | (refine n_then ?_) | (refine r_then ?_) | (refine e_then ?_) | (refine n_block ?_) | (refine r_block ?_) | (refine e_block ?_) | (refine o_block rfl ?_)
                      | (refine sw_run (by simp [hg, gateC, h6]; exact Is.mk _) ?_)
                      | (refine sw_true (by simp [hg, gateC, h6]; exact Is.mk _) ?_) | (refine sw_false (by simp [hg, gateC, h6]; exact Is.mk _) ?_)
                      | (refine sw_yes (by simp; exact Is.mk _) (by assumption) ?_)
                      | (refine sw_no (by simp; exact Is.mk _) (by assumption) ?_)
                      | (refine sw_if (by simp; exact Is.mk _) (fun _ => ?_) (fun _ => ?_)))
                    refine sw_draw mixed (by kernel_rfl) rfl (ds_all (by simp [hlt, ha1, hv1, c1, c2]; exact Is.mk _) (disAll_quiet (by simp)) ?_)
                    repeat' (first
                      | (refine sw_seq ?_) | (refine sw_block ?_) | (refine sw_skip ?_) | (refine sw_ret ?_) | (refine sw_exit ?_)
                      | (refine n_then ?_) | (refine r_then ?_) | (refine e_then ?_) | (refine n_block ?_) | (refine r_block ?_) | (refine e_block ?_) | (refine o_block rfl ?_)
                      | (refine sw_run (by simp []; exact Is.mk _) ?_)
                      | (refine sw_true (by simp []; exact Is.mk _) ?_) | (refine sw_false (by simp []; exact Is.mk _) ?_)
                      | (refine sw_yes (by simp; exact Is.mk _) (by assumption) ?_)
                      | (refine sw_no (by simp; exact Is.mk _) (by assumption) ?_)
                      | (refine sw_if (by simp; exact Is.mk _) (fun _ => ?_) (fun _ => ?_)))
                    exact end_val (by simp; exact Is.mk _) (by simp [hn0, hn]) ⟨rfl, by simp [validS, ← hR, ← hR3]⟩
                  · rw [if_neg (by rintro (h | h) <;> contradiction)] at hR3
                    repeat' (first
                      | (refine sw_seq ?_) | (refine sw_block ?_) | (refine sw_skip ?_) | (refine sw_ret ?_) | (refine sw_exit ?_)
                      | (refine n_then ?_) | (refine r_then ?_) | (refine e_then ?_) | (refine n_block ?_) | (refine r_block ?_) | (refine e_block ?_) | (refine o_block rfl ?_)
                      | (refine sw_run (by simp [hg, gateC, h6]; exact Is.mk _) ?_)
                      | (refine sw_true (by simp [hg, gateC, h6]; exact Is.mk _) ?_) | (refine sw_false (by simp [hg, gateC, h6]; exact Is.mk _) ?_)
                      | (refine sw_yes (by simp; exact Is.mk _) (by assumption) ?_)
                      | (refine sw_no (by simp; exact Is.mk _) (by assumption) ?_)
                      | (refine sw_if (by simp; exact Is.mk _) (fun _ => ?_) (fun _ => ?_)))
                    refine sw_draw mixed (by kernel_rfl) rfl (ds_all (by simp [hlt, ha1, hv1, c1, c2]; exact Is.mk _) (disAll_quiet (by simp)) ?_)
                    repeat' (first
                      | (refine sw_seq ?_) | (refine sw_block ?_) | (refine sw_skip ?_) | (refine sw_ret ?_) | (refine sw_exit ?_)
                      | (refine n_then ?_) | (refine r_then ?_) | (refine e_then ?_) | (refine n_block ?_) | (refine r_block ?_) | (refine e_block ?_) | (refine o_block rfl ?_)
                      | (refine sw_run (by simp [hlt, ha1, hv1, hw]; exact Is.mk _) ?_)
                      | (refine sw_true (by simp [hlt, ha1, hv1, hw]; exact Is.mk _) ?_) | (refine sw_false (by simp [hlt, ha1, hv1, hw]; exact Is.mk _) ?_)
                      | (refine sw_yes (by simp; exact Is.mk _) (by assumption) ?_)
                      | (refine sw_no (by simp; exact Is.mk _) (by assumption) ?_)
                      | (refine sw_if (by simp; exact Is.mk _) (fun _ => ?_) (fun _ => ?_)))
                    exact ⟨(k + 1, o2.set k a1), ⟨by simp only; omega, by simp [hlen2], hR3⟩, by simp only; omega, weak_cut_hp (by simp) (by simp [rints_set]) (by simp [hn])⟩
              · rw [if_neg h6] at hR3
                repeat' (first
                  | (refine sw_seq ?_) | (refine sw_block ?_) | (refine sw_skip ?_) | (refine sw_ret ?_) | (refine sw_exit ?_)
                  | (refine n_then ?_) | (refine r_then ?_) | (refine e_then ?_) | (refine n_block ?_) | (refine r_block ?_) | (refine e_block ?_) | (refine o_block rfl ?_)
                  | (refine sw_run (by simp [hg, gateC, h6, hw]; exact Is.mk _) ?_)
                  | (refine sw_true (by simp [hg, gateC, h6, hw]; exact Is.mk _) ?_) | (refine sw_false (by simp [hg, gateC, h6, hw]; exact Is.mk _) ?_)
                  | (refine sw_yes (by simp; exact Is.mk _) (by assumption) ?_)
                  | (refine sw_no (by simp; exact Is.mk _) (by assumption) ?_)
                  | (refine sw_if (by simp; exact Is.mk _) (fun _ => ?_) (fun _ => ?_)))
                exact ⟨(k + 1, o2), ⟨by simp only; omega, hlen2, hR3⟩, by simp only; omega, weak_cut_hp (by simp) (by simp) (by simp [hn])⟩
        · have hke : k = gs.length := by omega
          subst hke
          simp only [List.drop_length, validFrom] at hR3
          repeat' (first
            | (refine sw_seq ?_) | (refine sw_block ?_) | (refine sw_skip ?_) | (refine sw_ret ?_) | (refine sw_exit ?_)
            | (refine n_then ?_) | (refine r_then ?_) | (refine e_then ?_) | (refine n_block ?_) | (refine r_block ?_) | (refine e_block ?_) | (refine o_block rfl ?_)
            | (refine sw_run (by simp []; exact Is.mk _) ?_)
            | (refine sw_true (by simp []; exact Is.mk _) ?_) | (refine sw_false (by simp []; exact Is.mk _) ?_)
            | (refine sw_yes (by simp; exact Is.mk _) (by assumption) ?_)
            | (refine sw_no (by simp; exact Is.mk _) (by assumption) ?_)
            | (refine sw_if (by simp; exact Is.mk _) (fun _ => ?_) (fun _ => ?_)))
          exact end_val (by simp; exact Is.mk _) (by simp [hn0, hn]) ⟨rfl, by simp [validS, ← hR, ← hR3]⟩

end Go.AM
