/- Detected where the row of detections is the caller's own; the laws' example. -/
import Derived.Test.YtmljoaiedihoiaaDoorB15
namespace Go.AM
set_option linter.unusedVariables false
set_option linter.unusedSimpArgs false
open Go Go.RowKit Go.Proofs

def detB (r : Res) : Blk := .row 0 24 1 (pcells (lays r.det))
abbrev resQ (d : Nat) (r : Res) : List AV := [.p (.sl 1 r.outs), .p (.sl 1 r.views), .own d 0 0 r.det.length, .p (.sl 1 (bools r.dis)), ai r.rounds]
abbrev resO (d : Nat) (r : Res) : AV := .agg (resQ d r)
abbrev lookO (n : Nat) (w : Scen) (r : Res) (d : Nat) (o b : List Bool) : Locs := [(n + 3, .row 0 71 196 [rbits b]), (n + 2, .row 0 69 14 [rbits o]), (n + 1, .row 0 46 5 [resQ d r]), (n, .row 0 42 6 [scenR w])]

set_option maxHeartbeats 4000000 in
theorem look_own (w : Scen) (r : Res) (d : Nat) (hbad : Small w.bad.length) (hin : ∀ x ∈ w.bad, 0 ≤ x ∧ x < 14) (h0 : 0 ≤ w.n) (h13 : w.n ≤ 13) (hdet : ∀ x ∈ r.det, Small x.length) (hdl : Small r.det.length) (hdi : Small r.dis.length) :
    Does Tryd.prog 35 [scenA w, resO d r] [(d, detB r)] [] (.tup [.agg (rbits (outB w r)), .agg (rbits (byB w r))]) := by
  refine does_of Tryd.func35 rfl Tryd.ntmps35 (by simp) fun F n hF hn hn0 hrd => ?_
  have hid : F d = some (detB r) := hrd _ (List.mem_cons_self ..)
  have e0 : ¬ d = n := fun e => by rw [e, hn0] at hid; cases hid
  have e1 : ¬ d = n + 1 := fun e => by rw [e, hn 1] at hid; cases hid
  have e2 : ¬ d = n + 2 := fun e => by rw [e, hn 2] at hid; cases hid
  have e3 : ¬ d = n + 3 := fun e => by rw [e, hn 3] at hid; cases hid
  have e4 : ¬ d = n + 4 := fun e => by rw [e, hn 4] at hid; cases hid
  unfold detB at hid
  have hhl := hon_len w.bad h13
  have hhs : Small (honL w.bad w.n).length := Small.mk (by omega)
  repeat' (first
    | (refine sw_seq ?_) | (refine sw_block ?_) | (refine sw_skip ?_) | (refine sw_ret ?_) | (refine sw_exit ?_)
    | (refine n_then ?_) | (refine r_then ?_) | (refine e_then ?_) | (refine n_block ?_) | (refine r_block ?_) | (refine e_block ?_) | (refine o_block rfl ?_)
    | (refine sw_run (by simp [-getElem?_pos, -List.reduceReplicate, List.getElem?_cons_zero, List.getElem?_cons_succ, hid, e0, e1, e2, e3, e4, pcells]; exact Is.mk _) ?_)
    | (refine sw_true (by simp [-getElem?_pos, -List.reduceReplicate, List.getElem?_cons_zero, List.getElem?_cons_succ, hid, e0, e1, e2, e3, e4, pcells]; exact Is.mk _) ?_) | (refine sw_false (by simp [-getElem?_pos, -List.reduceReplicate, List.getElem?_cons_zero, List.getElem?_cons_succ, hid, e0, e1, e2, e3, e4, pcells]; exact Is.mk _) ?_)
    | (refine sw_yes (by simp; exact Is.mk _) (by assumption) ?_)
    | (refine sw_no (by simp; exact Is.mk _) (by assumption) ?_)
    | (refine sw_if (by simp; exact Is.mk _) (fun _ => ?_) (fun _ => ?_)))
  refine sw_loopI (α := Nat × List Bool) (fun x => [(2, .ptr n 0 0 0), (3, .ptr (n + 1) 0 0 0), (4, .ptr (n + 2) 0 0 0), (5, .ptr (n + 3) 0 0 0), (13, .p (.sl 1 (bools r.dis))), (14, ai r.dis.length), (15, ai x.1)])
    (fun x => lookO n w r d x.2 (List.replicate 196 false)) (fun _ => n + 4)
    (fun x => x.1 ≤ r.dis.length ∧ x.2.length = 14 ∧ outsL w.n x.2 x.1 (r.dis.drop x.1) = outB w r) (fun x => r.dis.length - x.1) (0, List.replicate 14 false) ⟨Nat.zero_le _, by simp, rfl⟩ ?_ ?_ ?_
  · intro _
    exact weak_cut_hp (by simp [-List.reduceReplicate]) (by simp [hid, e0, e1, e2, e3, e4, -List.reduceReplicate, Nat.add_assoc, convL_rep]) (by simp [-List.reduceReplicate])
  · intro x
    exact fresh_of hF (by omega) (by simp [-List.reduceReplicate])
  · rintro ⟨k, m⟩ ⟨hk, hlen, hR⟩
    simp only at hk hlen hR ⊢
    by_cases hlt : k < r.dis.length
    · obtain ⟨x, hx⟩ := get_lt hlt
      have hw := wrap_succ hlt hdi
      rw [drop_cons hx] at hR
      simp only [outsL] at hR
      by_cases h1 : (k : Int) < w.n
      · rw [if_pos h1] at hR
        have g1 : k + 1 ≤ 13 := by omega
        have g2 : k ≤ 12 := by omega
        have g3 : 0 ≤ (k : Int) + 1 := by omega
        have g4 : (k : Int) + 1 < 14 := by omega
        have hput := rbits_putb (m := m) (i := k + 1) x (by omega)
        repeat' (first
          | (refine sw_seq ?_) | (refine sw_block ?_) | (refine sw_skip ?_) | (refine sw_ret ?_) | (refine sw_exit ?_)
          | (refine n_then ?_) | (refine r_then ?_) | (refine e_then ?_) | (refine n_block ?_) | (refine r_block ?_) | (refine e_block ?_) | (refine o_block rfl ?_)
          | (refine sw_run (by simp [-getElem?_pos, -List.reduceReplicate, List.getElem?_cons_zero, List.getElem?_cons_succ, hlt, hx, h1, hw, hlen, g1, g2, g3, g4, hput, hid, e0, e1, e2, e3, e4, pcells]; exact Is.mk _) ?_)
          | (refine sw_true (by simp [-getElem?_pos, -List.reduceReplicate, List.getElem?_cons_zero, List.getElem?_cons_succ, hlt, hx, h1, hw, hlen, g1, g2, g3, g4, hput, hid, e0, e1, e2, e3, e4, pcells]; exact Is.mk _) ?_) | (refine sw_false (by simp [-getElem?_pos, -List.reduceReplicate, List.getElem?_cons_zero, List.getElem?_cons_succ, hlt, hx, h1, hw, hlen, g1, g2, g3, g4, hput, hid, e0, e1, e2, e3, e4, pcells]; exact Is.mk _) ?_)
          | (refine sw_yes (by simp; exact Is.mk _) (by assumption) ?_)
          | (refine sw_no (by simp; exact Is.mk _) (by assumption) ?_)
          | (refine sw_if (by simp; exact Is.mk _) (fun _ => ?_) (fun _ => ?_)))
        exact ⟨(k + 1, m.set (k + 1) x), ⟨by simp only; omega, by simp [hlen], hR⟩, by simp only; omega, weak_cut_hp (by simp [-List.reduceReplicate]) (by simp [hid, e0, e1, e2, e3, e4, -List.reduceReplicate, List.map_set, convL_put, convL_bits, convL_rep]) (by simp [-List.reduceReplicate, hn, hn0])⟩
      · rw [if_neg h1] at hR
        repeat' (first
          | (refine sw_seq ?_) | (refine sw_block ?_) | (refine sw_skip ?_) | (refine sw_ret ?_) | (refine sw_exit ?_)
          | (refine n_then ?_) | (refine r_then ?_) | (refine e_then ?_) | (refine n_block ?_) | (refine r_block ?_) | (refine e_block ?_) | (refine o_block rfl ?_)
          | (refine sw_run (by simp [-getElem?_pos, -List.reduceReplicate, List.getElem?_cons_zero, List.getElem?_cons_succ, hlt, hx, h1, hw, hid, e0, e1, e2, e3, e4, pcells]; exact Is.mk _) ?_)
          | (refine sw_true (by simp [-getElem?_pos, -List.reduceReplicate, List.getElem?_cons_zero, List.getElem?_cons_succ, hlt, hx, h1, hw, hid, e0, e1, e2, e3, e4, pcells]; exact Is.mk _) ?_) | (refine sw_false (by simp [-getElem?_pos, -List.reduceReplicate, List.getElem?_cons_zero, List.getElem?_cons_succ, hlt, hx, h1, hw, hid, e0, e1, e2, e3, e4, pcells]; exact Is.mk _) ?_)
          | (refine sw_yes (by simp; exact Is.mk _) (by assumption) ?_)
          | (refine sw_no (by simp; exact Is.mk _) (by assumption) ?_)
          | (refine sw_if (by simp; exact Is.mk _) (fun _ => ?_) (fun _ => ?_)))
        exact ⟨(k + 1, m), ⟨by simp only; omega, hlen, hR⟩, by simp only; omega, weak_cut_hp (by simp [-List.reduceReplicate]) (by simp [hid, e0, e1, e2, e3, e4, -List.reduceReplicate, convL_bits, convL_rep]) (by simp [-List.reduceReplicate, hn, hn0])⟩
    · obtain rfl : k = r.dis.length := by omega
      rw [List.drop_length] at hR
      simp only [outsL] at hR
      subst hR
      repeat' (first
        | (refine sw_seq ?_) | (refine sw_block ?_) | (refine sw_skip ?_) | (refine sw_ret ?_) | (refine sw_exit ?_)
        | (refine n_then ?_) | (refine r_then ?_) | (refine e_then ?_) | (refine n_block ?_) | (refine r_block ?_) | (refine e_block ?_) | (refine o_block rfl ?_)
        | (refine sw_run (by simp [-getElem?_pos, -List.reduceReplicate, List.getElem?_cons_zero, List.getElem?_cons_succ, hlt, hid, e0, e1, e2, e3, e4, pcells]; exact Is.mk _) ?_)
        | (refine sw_true (by simp [-getElem?_pos, -List.reduceReplicate, List.getElem?_cons_zero, List.getElem?_cons_succ, hlt, hid, e0, e1, e2, e3, e4, pcells]; exact Is.mk _) ?_) | (refine sw_false (by simp [-getElem?_pos, -List.reduceReplicate, List.getElem?_cons_zero, List.getElem?_cons_succ, hlt, hid, e0, e1, e2, e3, e4, pcells]; exact Is.mk _) ?_)
        | (refine sw_yes (by simp; exact Is.mk _) (by assumption) ?_)
        | (refine sw_no (by simp; exact Is.mk _) (by assumption) ?_)
        | (refine sw_if (by simp; exact Is.mk _) (fun _ => ?_) (fun _ => ?_)))
      refine sw_ss ?_
      repeat (refine ss_op rfl (by simp [-getElem?_pos, -List.reduceReplicate, List.getElem?_cons_zero, List.getElem?_cons_succ, ]; exact Is.mk _) ?_)
      refine ss_pure rfl rfl rfl (by simp [-getElem?_pos, -List.reduceReplicate, List.getElem?_cons_zero, List.getElem?_cons_succ]; exact Is.mk _) (by kernel_rfl) (honest_spec w.p w.n w.t w.bad hbad hin h0 h13) ?_
      refine ss_all (by simp [-getElem?_pos, -List.reduceReplicate, List.getElem?_cons_zero, List.getElem?_cons_succ, hid, e0, e1, e2, e3, e4, pcells]; exact Is.mk _) ?_
      repeat' (first
        | (refine sw_seq ?_) | (refine sw_block ?_) | (refine sw_skip ?_) | (refine sw_ret ?_) | (refine sw_exit ?_)
        | (refine n_then ?_) | (refine r_then ?_) | (refine e_then ?_) | (refine n_block ?_) | (refine r_block ?_) | (refine e_block ?_) | (refine o_block rfl ?_)
        | (refine sw_run (by simp [-getElem?_pos, -List.reduceReplicate, List.getElem?_cons_zero, List.getElem?_cons_succ, hid, e0, e1, e2, e3, e4, pcells]; exact Is.mk _) ?_)
        | (refine sw_true (by simp [-getElem?_pos, -List.reduceReplicate, List.getElem?_cons_zero, List.getElem?_cons_succ, hid, e0, e1, e2, e3, e4, pcells]; exact Is.mk _) ?_) | (refine sw_false (by simp [-getElem?_pos, -List.reduceReplicate, List.getElem?_cons_zero, List.getElem?_cons_succ, hid, e0, e1, e2, e3, e4, pcells]; exact Is.mk _) ?_)
        | (refine sw_yes (by simp; exact Is.mk _) (by assumption) ?_)
        | (refine sw_no (by simp; exact Is.mk _) (by assumption) ?_)
        | (refine sw_if (by simp; exact Is.mk _) (fun _ => ?_) (fun _ => ?_)))
      refine sw_loopI (α := Nat × List Bool) (fun x => [(2, .ptr n 0 0 0), (3, .ptr (n + 1) 0 0 0), (4, .ptr (n + 2) 0 0 0), (5, .ptr (n + 3) 0 0 0), (34, .p (.sl 1 (ints (honL w.bad w.n)))), (35, ai (honL w.bad w.n).length), (36, ai x.1)])
        (fun x => lookO n w r d (outB w r) x.2) (fun _ => n + 4)
        (fun x => x.1 ≤ (honL w.bad w.n).length ∧ x.2.length = 196 ∧ seeAll w.n r.det x.2 ((honL w.bad w.n).drop x.1) = byB w r) (fun x => (honL w.bad w.n).length - x.1) (0, List.replicate 196 false) ⟨Nat.zero_le _, List.length_replicate .., rfl⟩ ?_ ?_ ?_
      · intro _
        exact weak_cut_hp (by simp [-List.reduceReplicate]) (by simp [hid, e0, e1, e2, e3, e4, -List.reduceReplicate, Nat.add_assoc, convL_rep, convL_bits]) (by simp [-List.reduceReplicate])
      · intro x
        exact fresh_of hF (by omega) (by simp [-List.reduceReplicate])
      · rintro ⟨k, m⟩ ⟨hk, hlen, hR⟩
        simp only at hk hlen hR ⊢
        by_cases hlt : k < (honL w.bad w.n).length
        · obtain ⟨j, hj⟩ := get_lt hlt
          have hw := wrap_succ hlt hhs
          have hjm := filt_mem.1 (List.mem_of_getElem? hj)
          have j1 : 1 ≤ j := hjm.1
          have j2 : j ≤ 13 := by have := hjm.2.1; omega
          rw [drop_cons hj] at hR
          simp only [seeAll] at hR
          by_cases h2 : (r.det.length : Int) < j
          · rw [if_neg (by omega)] at hR
            repeat' (first
              | (refine sw_seq ?_) | (refine sw_block ?_) | (refine sw_skip ?_) | (refine sw_ret ?_) | (refine sw_exit ?_)
              | (refine n_then ?_) | (refine r_then ?_) | (refine e_then ?_) | (refine n_block ?_) | (refine r_block ?_) | (refine e_block ?_) | (refine o_block rfl ?_)
              | (refine sw_run (by simp [-getElem?_pos, -List.reduceReplicate, List.getElem?_cons_zero, List.getElem?_cons_succ, hlt, hj, h2, hw, hid, e0, e1, e2, e3, e4, pcells]; exact Is.mk _) ?_)
              | (refine sw_true (by simp [-getElem?_pos, -List.reduceReplicate, List.getElem?_cons_zero, List.getElem?_cons_succ, hlt, hj, h2, hw, hid, e0, e1, e2, e3, e4, pcells]; exact Is.mk _) ?_) | (refine sw_false (by simp [-getElem?_pos, -List.reduceReplicate, List.getElem?_cons_zero, List.getElem?_cons_succ, hlt, hj, h2, hw, hid, e0, e1, e2, e3, e4, pcells]; exact Is.mk _) ?_)
              | (refine sw_yes (by simp; exact Is.mk _) (by assumption) ?_)
              | (refine sw_no (by simp; exact Is.mk _) (by assumption) ?_)
              | (refine sw_if (by simp; exact Is.mk _) (fun _ => ?_) (fun _ => ?_)))
            exact ⟨(k + 1, m), ⟨by simp only; omega, hlen, hR⟩, by simp only; omega, weak_cut_hp (by simp [-List.reduceReplicate]) (by simp [hid, e0, e1, e2, e3, e4, -List.reduceReplicate, convL_bits]) (by simp [-List.reduceReplicate, hn, hn0])⟩
          · rw [if_pos (by omega)] at hR
            have hjd : j.toNat - 1 < r.det.length := by omega
            obtain ⟨y, hy⟩ := get_lt hjd
            have hw1 : IntKind.i64.wrap (j - 1) = j - 1 := i64_in (by omega)
            have hys := hdet y (List.mem_of_getElem? hy)
            rw [show (j - 1).toNat = j.toNat - 1 by omega, List.getD_eq_getElem?_getD, hy, Option.getD_some] at hR
            have hcell : (pcells (lays r.det))[j.toNat - 1]? = some [AV.p (.sl 1 (ints y))] := by simp [pcells, hy]
            have hj9 : j - 1 < (r.det.length : Int) := by omega
            repeat' (first
              | (refine sw_seq ?_) | (refine sw_block ?_) | (refine sw_skip ?_) | (refine sw_ret ?_) | (refine sw_exit ?_)
              | (refine n_then ?_) | (refine r_then ?_) | (refine e_then ?_) | (refine n_block ?_) | (refine r_block ?_) | (refine e_block ?_) | (refine o_block rfl ?_)
              | (refine sw_run (by simp [-getElem?_pos, -List.reduceReplicate, List.getElem?_cons_zero, List.getElem?_cons_succ, hlt, hj, h2, hw1, j1, hj9, hy, hcell, hid, e0, e1, e2, e3, e4]; exact Is.mk _) ?_)
              | (refine sw_true (by simp [-getElem?_pos, -List.reduceReplicate, List.getElem?_cons_zero, List.getElem?_cons_succ, hlt, hj, h2, hw1, j1, hj9, hy, hcell, hid, e0, e1, e2, e3, e4]; exact Is.mk _) ?_) | (refine sw_false (by simp [-getElem?_pos, -List.reduceReplicate, List.getElem?_cons_zero, List.getElem?_cons_succ, hlt, hj, h2, hw1, j1, hj9, hy, hcell, hid, e0, e1, e2, e3, e4]; exact Is.mk _) ?_)
              | (refine sw_yes (by simp; exact Is.mk _) (by assumption) ?_)
              | (refine sw_no (by simp; exact Is.mk _) (by assumption) ?_)
              | (refine sw_if (by simp; exact Is.mk _) (fun _ => ?_) (fun _ => ?_)))
            refine sw_loopI (α := Nat × List Bool) (fun x => [(2, .ptr n 0 0 0), (3, .ptr (n + 1) 0 0 0), (4, .ptr (n + 2) 0 0 0), (5, .ptr (n + 3) 0 0 0), (9, ai j), (34, .p (.sl 1 (ints (honL w.bad w.n)))), (35, ai (honL w.bad w.n).length), (36, ai k), (50, .p (.sl 1 (ints y))), (51, ai y.length), (52, ai x.1)])
              (fun x => lookO n w r d (outB w r) x.2) (fun _ => n + 4)
              (fun x => x.1 ≤ y.length ∧ x.2.length = 196 ∧ seeAll w.n r.det (seeRow w.n x.2 j (y.drop x.1)) ((honL w.bad w.n).drop (k + 1)) = byB w r) (fun x => y.length - x.1) (0, m) ⟨Nat.zero_le _, hlen, hR⟩ ?_ ?_ ?_
            · intro _
              exact weak_cut_hp (by simp [-List.reduceReplicate]) (by simp [hid, e0, e1, e2, e3, e4, -List.reduceReplicate, convL_bits]) (by simp [-List.reduceReplicate])
            · intro x
              exact fresh_of hF (by omega) (by simp [-List.reduceReplicate])
            · rintro ⟨a, m⟩ ⟨ha, hlen, hR⟩
              simp only at ha hlen hR ⊢
              by_cases hal : a < y.length
              · obtain ⟨x, hx⟩ := get_lt hal
                have hwa := wrap_succ hal hys
                rw [drop_cons hx] at hR
                simp only [seeRow] at hR
                by_cases x1 : 1 ≤ x
                · by_cases x2 : x ≤ w.n
                  · rw [if_pos ⟨x1, x2⟩] at hR
                    have x3 : 0 ≤ x := by omega
                    have x4 : x < 14 := by omega
                    have j3 : 0 ≤ j := by omega
                    have j4 : j < 14 := by omega
                    have q1 : x.toNat * 14 + j.toNat ≤ 195 := by omega
                    have q2 : x.toNat * 14 + j.toNat < 196 := by omega
                    have hput := rbits_putb (m := m) (i := x.toNat * 14 + j.toNat) true (by omega)
                    repeat' (first
                      | (refine sw_seq ?_) | (refine sw_block ?_) | (refine sw_skip ?_) | (refine sw_ret ?_) | (refine sw_exit ?_)
                      | (refine n_then ?_) | (refine r_then ?_) | (refine e_then ?_) | (refine n_block ?_) | (refine r_block ?_) | (refine e_block ?_) | (refine o_block rfl ?_)
                      | (refine sw_run (by simp [-getElem?_pos, -List.reduceReplicate, List.getElem?_cons_zero, List.getElem?_cons_succ, hal, hx, x1, x2, x3, x4, j3, j4, q1, q2, hlen, hput, hwa, hid, e0, e1, e2, e3, e4, pcells]; exact Is.mk _) ?_)
                      | (refine sw_true (by simp [-getElem?_pos, -List.reduceReplicate, List.getElem?_cons_zero, List.getElem?_cons_succ, hal, hx, x1, x2, x3, x4, j3, j4, q1, q2, hlen, hput, hwa, hid, e0, e1, e2, e3, e4, pcells]; exact Is.mk _) ?_) | (refine sw_false (by simp [-getElem?_pos, -List.reduceReplicate, List.getElem?_cons_zero, List.getElem?_cons_succ, hal, hx, x1, x2, x3, x4, j3, j4, q1, q2, hlen, hput, hwa, hid, e0, e1, e2, e3, e4, pcells]; exact Is.mk _) ?_)
                      | (refine sw_yes (by simp; exact Is.mk _) (by assumption) ?_)
                      | (refine sw_no (by simp; exact Is.mk _) (by assumption) ?_)
                      | (refine sw_if (by simp; exact Is.mk _) (fun _ => ?_) (fun _ => ?_)))
                    exact ⟨(a + 1, m.set (x.toNat * 14 + j.toNat) true), ⟨by simp only; omega, by simp [hlen], hR⟩, by simp only; omega, weak_cut_hp (by simp [-List.reduceReplicate]) (by simp [hid, e0, e1, e2, e3, e4, -List.reduceReplicate, List.map_set, convL_put, convL_bits]) (by simp [-List.reduceReplicate, hn, hn0])⟩
                  · rw [if_neg fun h => x2 h.2] at hR
                    repeat' (first
                      | (refine sw_seq ?_) | (refine sw_block ?_) | (refine sw_skip ?_) | (refine sw_ret ?_) | (refine sw_exit ?_)
                      | (refine n_then ?_) | (refine r_then ?_) | (refine e_then ?_) | (refine n_block ?_) | (refine r_block ?_) | (refine e_block ?_) | (refine o_block rfl ?_)
                      | (refine sw_run (by simp [-getElem?_pos, -List.reduceReplicate, List.getElem?_cons_zero, List.getElem?_cons_succ, hal, hx, x1, x2, hwa, hid, e0, e1, e2, e3, e4, pcells]; exact Is.mk _) ?_)
                      | (refine sw_true (by simp [-getElem?_pos, -List.reduceReplicate, List.getElem?_cons_zero, List.getElem?_cons_succ, hal, hx, x1, x2, hwa, hid, e0, e1, e2, e3, e4, pcells]; exact Is.mk _) ?_) | (refine sw_false (by simp [-getElem?_pos, -List.reduceReplicate, List.getElem?_cons_zero, List.getElem?_cons_succ, hal, hx, x1, x2, hwa, hid, e0, e1, e2, e3, e4, pcells]; exact Is.mk _) ?_)
                      | (refine sw_yes (by simp; exact Is.mk _) (by assumption) ?_)
                      | (refine sw_no (by simp; exact Is.mk _) (by assumption) ?_)
                      | (refine sw_if (by simp; exact Is.mk _) (fun _ => ?_) (fun _ => ?_)))
                    exact ⟨(a + 1, m), ⟨by simp only; omega, hlen, hR⟩, by simp only; omega, weak_cut_hp (by simp [-List.reduceReplicate]) (by simp [hid, e0, e1, e2, e3, e4, -List.reduceReplicate, convL_bits]) (by simp [-List.reduceReplicate, hn, hn0])⟩
                · rw [if_neg fun h => x1 h.1] at hR
                  repeat' (first
                    | (refine sw_seq ?_) | (refine sw_block ?_) | (refine sw_skip ?_) | (refine sw_ret ?_) | (refine sw_exit ?_)
                    | (refine n_then ?_) | (refine r_then ?_) | (refine e_then ?_) | (refine n_block ?_) | (refine r_block ?_) | (refine e_block ?_) | (refine o_block rfl ?_)
                    | (refine sw_run (by simp [-getElem?_pos, -List.reduceReplicate, List.getElem?_cons_zero, List.getElem?_cons_succ, hal, hx, x1, hwa, hid, e0, e1, e2, e3, e4, pcells]; exact Is.mk _) ?_)
                    | (refine sw_true (by simp [-getElem?_pos, -List.reduceReplicate, List.getElem?_cons_zero, List.getElem?_cons_succ, hal, hx, x1, hwa, hid, e0, e1, e2, e3, e4, pcells]; exact Is.mk _) ?_) | (refine sw_false (by simp [-getElem?_pos, -List.reduceReplicate, List.getElem?_cons_zero, List.getElem?_cons_succ, hal, hx, x1, hwa, hid, e0, e1, e2, e3, e4, pcells]; exact Is.mk _) ?_)
                    | (refine sw_yes (by simp; exact Is.mk _) (by assumption) ?_)
                    | (refine sw_no (by simp; exact Is.mk _) (by assumption) ?_)
                    | (refine sw_if (by simp; exact Is.mk _) (fun _ => ?_) (fun _ => ?_)))
                  exact ⟨(a + 1, m), ⟨by simp only; omega, hlen, hR⟩, by simp only; omega, weak_cut_hp (by simp [-List.reduceReplicate]) (by simp [hid, e0, e1, e2, e3, e4, -List.reduceReplicate, convL_bits]) (by simp [-List.reduceReplicate, hn, hn0])⟩
              · obtain rfl : a = y.length := by omega
                rw [List.drop_length] at hR
                simp only [seeRow] at hR
                repeat' (first
                  | (refine sw_seq ?_) | (refine sw_block ?_) | (refine sw_skip ?_) | (refine sw_ret ?_) | (refine sw_exit ?_)
                  | (refine n_then ?_) | (refine r_then ?_) | (refine e_then ?_) | (refine n_block ?_) | (refine r_block ?_) | (refine e_block ?_) | (refine o_block rfl ?_)
                  | (refine sw_run (by simp [-getElem?_pos, -List.reduceReplicate, List.getElem?_cons_zero, List.getElem?_cons_succ, hal, hw, hid, e0, e1, e2, e3, e4, pcells]; exact Is.mk _) ?_)
                  | (refine sw_true (by simp [-getElem?_pos, -List.reduceReplicate, List.getElem?_cons_zero, List.getElem?_cons_succ, hal, hw, hid, e0, e1, e2, e3, e4, pcells]; exact Is.mk _) ?_) | (refine sw_false (by simp [-getElem?_pos, -List.reduceReplicate, List.getElem?_cons_zero, List.getElem?_cons_succ, hal, hw, hid, e0, e1, e2, e3, e4, pcells]; exact Is.mk _) ?_)
                  | (refine sw_yes (by simp; exact Is.mk _) (by assumption) ?_)
                  | (refine sw_no (by simp; exact Is.mk _) (by assumption) ?_)
                  | (refine sw_if (by simp; exact Is.mk _) (fun _ => ?_) (fun _ => ?_)))
                exact ⟨(k + 1, m), ⟨by simp only; omega, hlen, hR⟩, by simp only; omega, weak_cut_hp (by simp [-List.reduceReplicate]) (by simp [hid, e0, e1, e2, e3, e4, -List.reduceReplicate, convL_bits]) (by simp [-List.reduceReplicate, hn, hn0])⟩
        · obtain rfl : k = (honL w.bad w.n).length := by omega
          rw [List.drop_length] at hR
          simp only [seeAll] at hR
          subst hR
          have ol := outB_len w r
          have t1 := take_bits' ol
          have t2 := drop_bits' ol
          have bl := byB_len w r
          have t3 := take_bits' bl
          have t4 := drop_bits' bl
          repeat' (first
            | (refine sw_seq ?_) | (refine sw_block ?_) | (refine sw_skip ?_) | (refine sw_ret ?_) | (refine sw_exit ?_)
            | (refine n_then ?_) | (refine r_then ?_) | (refine e_then ?_) | (refine n_block ?_) | (refine r_block ?_) | (refine e_block ?_) | (refine o_block rfl ?_)
            | (refine sw_run (by simp [-getElem?_pos, -List.reduceReplicate, List.getElem?_cons_zero, List.getElem?_cons_succ, hlt, hid, e0, e1, e2, e3, e4, pcells]; exact Is.mk _) ?_)
            | (refine sw_true (by simp [-getElem?_pos, -List.reduceReplicate, List.getElem?_cons_zero, List.getElem?_cons_succ, hlt, hid, e0, e1, e2, e3, e4, pcells]; exact Is.mk _) ?_) | (refine sw_false (by simp [-getElem?_pos, -List.reduceReplicate, List.getElem?_cons_zero, List.getElem?_cons_succ, hlt, hid, e0, e1, e2, e3, e4, pcells]; exact Is.mk _) ?_)
            | (refine sw_yes (by simp; exact Is.mk _) (by assumption) ?_)
            | (refine sw_no (by simp; exact Is.mk _) (by assumption) ?_)
            | (refine sw_if (by simp; exact Is.mk _) (fun _ => ?_) (fun _ => ?_)))
          refine sw_draw (us := [(1,2)]) mixed (by kernel_rfl) (by kernel_rfl) (ds_all (by simp [-getElem?_pos, -List.reduceReplicate, List.getElem?_cons_zero, List.getElem?_cons_succ, ol, t1, t2, bl, t3, t4, hid, e0, e1, e2, e3, e4, pcells]; exact Is.mk _) (by simp [disAll, EDisj, wids, rids]) ?_)
          repeat' (first
            | (refine sw_seq ?_) | (refine sw_block ?_) | (refine sw_skip ?_) | (refine sw_ret ?_) | (refine sw_exit ?_)
            | (refine n_then ?_) | (refine r_then ?_) | (refine e_then ?_) | (refine n_block ?_) | (refine r_block ?_) | (refine e_block ?_) | (refine o_block rfl ?_)
            | (refine sw_run (by simp [-getElem?_pos, -List.reduceReplicate, List.getElem?_cons_zero, List.getElem?_cons_succ, hid, e0, e1, e2, e3, e4, pcells]; exact Is.mk _) ?_)
            | (refine sw_true (by simp [-getElem?_pos, -List.reduceReplicate, List.getElem?_cons_zero, List.getElem?_cons_succ, hid, e0, e1, e2, e3, e4, pcells]; exact Is.mk _) ?_) | (refine sw_false (by simp [-getElem?_pos, -List.reduceReplicate, List.getElem?_cons_zero, List.getElem?_cons_succ, hid, e0, e1, e2, e3, e4, pcells]; exact Is.mk _) ?_)
            | (refine sw_yes (by simp; exact Is.mk _) (by assumption) ?_)
            | (refine sw_no (by simp; exact Is.mk _) (by assumption) ?_)
            | (refine sw_if (by simp; exact Is.mk _) (fun _ => ?_) (fun _ => ?_)))
          exact end_plain (x := .tup [.agg (rbits (outB w r)), .agg (rbits (byB w r))]) (by simp [ol, t1, bl, t3]; exact Is.mk _) (fun D => by simp [conv, convL, convL_bits]) (by simp [hn0, hn]) ⟨rfl, rfl⟩

set_option maxHeartbeats 2000000 in
theorem det_own (w : Scen) (r : Res) (d : Nat) (hbad : Small w.bad.length) (hin : ∀ x ∈ w.bad, 0 ≤ x ∧ x < 14) (h0 : 0 ≤ w.n) (h13 : w.n ≤ 13) (hdet : ∀ x ∈ r.det, Small x.length) (hdl : Small r.det.length) (hdi : Small r.dis.length) :
    Does Tryd.prog 17 [scenA w, resO d r] [(d, detB r)] [] (.p (.sl 1 (ints (detL w r)))) := by
  refine does_of Tryd.func17 rfl Tryd.ntmps17 (by simp) fun F n hF hn hn0 hrd => ?_
  have hid : F d = some (detB r) := hrd _ (List.mem_cons_self ..)
  have e0 : ¬ d = n := fun e => by rw [e, hn0] at hid; cases hid
  have e1 : ¬ d = n + 1 := fun e => by rw [e, hn 1] at hid; cases hid
  have e2 : ¬ d = n + 2 := fun e => by rw [e, hn 2] at hid; cases hid
  have e3 : ¬ d = n + 3 := fun e => by rw [e, hn 3] at hid; cases hid
  have e4 : ¬ d = n + 4 := fun e => by rw [e, hn 4] at hid; cases hid
  unfold detB at hid
  have ol := outB_len w r
  have t1 := take_bits' ol
  have t2 := drop_bits' ol
  have bl := byB_len w r
  have t3 := take_bits' bl
  have t4 := drop_bits' bl
  repeat' (first
    | (refine sw_seq ?_) | (refine sw_block ?_) | (refine sw_skip ?_) | (refine sw_ret ?_) | (refine sw_exit ?_)
    | (refine n_then ?_) | (refine r_then ?_) | (refine e_then ?_) | (refine n_block ?_) | (refine r_block ?_) | (refine e_block ?_) | (refine o_block rfl ?_)
    | (refine sw_run (by simp [-getElem?_pos, -List.reduceReplicate, List.getElem?_cons_zero, List.getElem?_cons_succ, hid, e0, e1, e2, e3, e4, pcells]; exact Is.mk _) ?_)
    | (refine sw_true (by simp [-getElem?_pos, -List.reduceReplicate, List.getElem?_cons_zero, List.getElem?_cons_succ, hid, e0, e1, e2, e3, e4, pcells]; exact Is.mk _) ?_) | (refine sw_false (by simp [-getElem?_pos, -List.reduceReplicate, List.getElem?_cons_zero, List.getElem?_cons_succ, hid, e0, e1, e2, e3, e4, pcells]; exact Is.mk _) ?_)
    | (refine sw_yes (by simp; exact Is.mk _) (by assumption) ?_)
    | (refine sw_no (by simp; exact Is.mk _) (by assumption) ?_)
    | (refine sw_if (by simp; exact Is.mk _) (fun _ => ?_) (fun _ => ?_)))
  refine sw_ss ?_
  repeat (refine ss_op rfl (by simp [-getElem?_pos, -List.reduceReplicate, List.getElem?_cons_zero, List.getElem?_cons_succ, hid, e0, e1, e2, e3, e4, detB]; exact Is.mk _) ?_)
  refine ss_does rfl (by simp [-getElem?_pos, -List.reduceReplicate, List.getElem?_cons_zero, List.getElem?_cons_succ, hid, e0, e1, e2, e3, e4, detB]; exact Is.mk _) rfl (by simp [-getElem?_pos, -List.reduceReplicate, List.getElem?_cons_zero, List.getElem?_cons_succ, hid, e0, e1, e2, e3, e4, detB]; exact Is.mk _) (by kernel_rfl) (look_own w r d hbad hin h0 h13 hdet hdl hdi) (by simp [-getElem?_pos, -List.reduceReplicate, List.getElem?_cons_zero, List.getElem?_cons_succ, hid, e0, e1, e2, e3, e4, detB]) (by simp [-getElem?_pos, -List.reduceReplicate, List.getElem?_cons_zero, List.getElem?_cons_succ]) ?_
  refine ss_all (by simp [-getElem?_pos, -List.reduceReplicate, List.getElem?_cons_zero, List.getElem?_cons_succ, ol, t1, t2, bl, t3, t4, hid, e0, e1, e2, e3, e4, pcells]; exact Is.mk _) ?_
  repeat' (first
    | (refine sw_seq ?_) | (refine sw_block ?_) | (refine sw_skip ?_) | (refine sw_ret ?_) | (refine sw_exit ?_)
    | (refine n_then ?_) | (refine r_then ?_) | (refine e_then ?_) | (refine n_block ?_) | (refine r_block ?_) | (refine e_block ?_) | (refine o_block rfl ?_)
    | (refine sw_run (by simp [-getElem?_pos, -List.reduceReplicate, List.getElem?_cons_zero, List.getElem?_cons_succ, hid, e0, e1, e2, e3, e4, pcells]; exact Is.mk _) ?_)
    | (refine sw_true (by simp [-getElem?_pos, -List.reduceReplicate, List.getElem?_cons_zero, List.getElem?_cons_succ, hid, e0, e1, e2, e3, e4, pcells]; exact Is.mk _) ?_) | (refine sw_false (by simp [-getElem?_pos, -List.reduceReplicate, List.getElem?_cons_zero, List.getElem?_cons_succ, hid, e0, e1, e2, e3, e4, pcells]; exact Is.mk _) ?_)
    | (refine sw_yes (by simp; exact Is.mk _) (by assumption) ?_)
    | (refine sw_no (by simp; exact Is.mk _) (by assumption) ?_)
    | (refine sw_if (by simp; exact Is.mk _) (fun _ => ?_) (fun _ => ?_)))
  refine sw_loopI (α := Nat × Int × List Int) (fun x => [(2, .ptr n 0 0 0), (5, .ptr (n + 2) 0 0 0), (6, .ptr (n + 3) 0 0 0), (7, .own (n + 4) x.2.2.length 0 x.2.2.length), (8, ai x.2.1)])
    (fun x => [(n + 4, .row x.2.2.length 3 1 (rints x.2.2)), (n + 3, .row 0 71 196 [rbits (byB w r)]), (n + 2, .row 0 69 14 [rbits (outB w r)]), (n + 1, .row 0 46 5 [resQ d r]), (n, .row 0 42 6 [scenR w])]) (fun _ => n + 5)
    (fun x => x.1 ≤ w.n.toNat ∧ x.2.1 = ((x.1 + 1 : Nat) : Int) ∧ x.2.2 = filtUp (detF w r) x.1) (fun x => w.n.toNat - x.1) (0, 1, []) ⟨Nat.zero_le _, rfl, rfl⟩ ?_ ?_ ?_
  · intro _
    refine weak_adopt_hp (id := n + 4) (sz := 1) (e := 3) (by simp [-List.reduceReplicate, Nat.add_assoc, hn]) (by simp [ints, pcells]) (by simp [-List.reduceReplicate, Nat.add_assoc, conv, convT, nilA]) ?_ (by simp [-List.reduceReplicate, Nat.add_assoc])
    simp [-List.reduceReplicate, Nat.add_assoc]
  · intro x
    exact fresh_of hF (by omega) (by simp)
  · rintro ⟨m, i, out⟩ ⟨hm, hi, hout⟩
    simp only at hm hi hout ⊢
    have hlen : out.length ≤ m := by rw [hout]; exact filt_len _ _
    by_cases hlt : i ≤ w.n
    · have hw : IntKind.i64.wrap (i + 1) = i + 1 := i64_in (by omega)
      have hsm : Small (out.length + 1) := Small.mk (by omega)
      have g1 : 0 ≤ i := by omega
      have g2 : i < 14 := by omega
      have g3 : i ≤ 13 := by omega
      have hi1 : 1 ≤ i := by omega
      have hg := outB_get w r hi1 hlt h13
      repeat' (first
        | (refine sw_seq ?_) | (refine sw_block ?_) | (refine sw_skip ?_) | (refine sw_ret ?_) | (refine sw_exit ?_)
        | (refine n_then ?_) | (refine r_then ?_) | (refine e_then ?_) | (refine n_block ?_) | (refine r_block ?_) | (refine e_block ?_) | (refine o_block rfl ?_)
        | (refine sw_run (by simp [-getElem?_pos, -List.reduceReplicate, List.getElem?_cons_zero, List.getElem?_cons_succ, hlt, hid, e0, e1, e2, e3, e4, pcells]; exact Is.mk _) ?_)
        | (refine sw_true (by simp [-getElem?_pos, -List.reduceReplicate, List.getElem?_cons_zero, List.getElem?_cons_succ, hlt, hid, e0, e1, e2, e3, e4, pcells]; exact Is.mk _) ?_) | (refine sw_false (by simp [-getElem?_pos, -List.reduceReplicate, List.getElem?_cons_zero, List.getElem?_cons_succ, hlt, hid, e0, e1, e2, e3, e4, pcells]; exact Is.mk _) ?_)
        | (refine sw_yes (by simp; exact Is.mk _) (by assumption) ?_)
        | (refine sw_no (by simp; exact Is.mk _) (by assumption) ?_)
        | (refine sw_if (by simp; exact Is.mk _) (fun _ => ?_) (fun _ => ?_)))
      refine sw_ss ?_
      cases hb : disq r.dis i
      · rw [hb] at hg
        have hra := row_any w r (a := i.toNat) (by omega) (by omega) h13
        rw [Int.toNat_of_nonneg g1] at hra
        repeat (refine ss_op rfl (by simp [-getElem?_pos, -List.reduceReplicate, List.getElem?_cons_zero, List.getElem?_cons_succ, g1, g2, g3, ol, hg]; exact Is.mk _) ?_)
        refine ss_does rfl (by simp [-getElem?_pos, -List.reduceReplicate, List.getElem?_cons_zero, List.getElem?_cons_succ, g1, g2, g3, ol, hg]; exact Is.mk _) rfl (by simp [-getElem?_pos, -List.reduceReplicate, List.getElem?_cons_zero, List.getElem?_cons_succ, g1, g2, g3, ol, hg]; exact Is.mk _) (by kernel_rfl) (containsb_spec (n + 3) i.toNat (byB w r) (by omega) bl) (by simp [-getElem?_pos, -List.reduceReplicate, List.getElem?_cons_zero, List.getElem?_cons_succ, g1, g2, g3, ol, hg]) (by simp [-getElem?_pos, -List.reduceReplicate, List.getElem?_cons_zero, List.getElem?_cons_succ]) ?_
        rw [show ((byB w r).drop (i.toNat * 14)).take 14 = rowB w r i.toNat from rfl, hra]
        by_cases hs : 0 < (seenL w.bad w.n r.det i).length
        · have hf : detF w r i = true := by simp only [detF, hb, hs]; rfl
          refine ss_all (by simp [-getElem?_pos, -List.reduceReplicate, List.getElem?_cons_zero, List.getElem?_cons_succ, hs, hid, e0, e1, e2, e3, e4, pcells]; exact Is.mk _) ?_
          repeat' (first
            | (refine sw_seq ?_) | (refine sw_block ?_) | (refine sw_skip ?_) | (refine sw_ret ?_) | (refine sw_exit ?_)
            | (refine n_then ?_) | (refine r_then ?_) | (refine e_then ?_) | (refine n_block ?_) | (refine r_block ?_) | (refine e_block ?_) | (refine o_block rfl ?_)
            | (refine sw_run (by simp [-getElem?_pos, -List.reduceReplicate, List.getElem?_cons_zero, List.getElem?_cons_succ, hw, hsm, hid, e0, e1, e2, e3, e4, pcells]; exact Is.mk _) ?_)
            | (refine sw_true (by simp [-getElem?_pos, -List.reduceReplicate, List.getElem?_cons_zero, List.getElem?_cons_succ, hw, hsm, hid, e0, e1, e2, e3, e4, pcells]; exact Is.mk _) ?_) | (refine sw_false (by simp [-getElem?_pos, -List.reduceReplicate, List.getElem?_cons_zero, List.getElem?_cons_succ, hw, hsm, hid, e0, e1, e2, e3, e4, pcells]; exact Is.mk _) ?_)
            | (refine sw_yes (by simp; exact Is.mk _) (by assumption) ?_)
            | (refine sw_no (by simp; exact Is.mk _) (by assumption) ?_)
            | (refine sw_if (by simp; exact Is.mk _) (fun _ => ?_) (fun _ => ?_)))
          exact ⟨(m + 1, i + 1, out ++ [i]), ⟨by simp only; omega, by simp only; omega, filt_yes hi hf hout⟩, by simp only; omega, weak_cut_hp (by simp) (by simp [hid, e0, e1, e2, e3, e4, rints_app, convL_bits]) (by simp [hn, hn0])⟩
        · have hf : detF w r i = false := by simp only [detF, hb, hs]; rfl
          refine ss_all (by simp [-getElem?_pos, -List.reduceReplicate, List.getElem?_cons_zero, List.getElem?_cons_succ, hs, hid, e0, e1, e2, e3, e4, pcells]; exact Is.mk _) ?_
          repeat' (first
            | (refine sw_seq ?_) | (refine sw_block ?_) | (refine sw_skip ?_) | (refine sw_ret ?_) | (refine sw_exit ?_)
            | (refine n_then ?_) | (refine r_then ?_) | (refine e_then ?_) | (refine n_block ?_) | (refine r_block ?_) | (refine e_block ?_) | (refine o_block rfl ?_)
            | (refine sw_run (by simp [-getElem?_pos, -List.reduceReplicate, List.getElem?_cons_zero, List.getElem?_cons_succ, hw, hsm, hid, e0, e1, e2, e3, e4, pcells]; exact Is.mk _) ?_)
            | (refine sw_true (by simp [-getElem?_pos, -List.reduceReplicate, List.getElem?_cons_zero, List.getElem?_cons_succ, hw, hsm, hid, e0, e1, e2, e3, e4, pcells]; exact Is.mk _) ?_) | (refine sw_false (by simp [-getElem?_pos, -List.reduceReplicate, List.getElem?_cons_zero, List.getElem?_cons_succ, hw, hsm, hid, e0, e1, e2, e3, e4, pcells]; exact Is.mk _) ?_)
            | (refine sw_yes (by simp; exact Is.mk _) (by assumption) ?_)
            | (refine sw_no (by simp; exact Is.mk _) (by assumption) ?_)
            | (refine sw_if (by simp; exact Is.mk _) (fun _ => ?_) (fun _ => ?_)))
          exact ⟨(m + 1, i + 1, out), ⟨by simp only; omega, by simp only; omega, filt_no hi hf hout⟩, by simp only; omega, weak_cut_hp (by simp) (by simp [hid, e0, e1, e2, e3, e4, convL_bits]) (by simp [hn, hn0])⟩
      · rw [hb] at hg
        have hf : detF w r i = true := by simp only [detF, hb, Bool.true_or]
        refine ss_all (by simp [-getElem?_pos, -List.reduceReplicate, List.getElem?_cons_zero, List.getElem?_cons_succ, g1, g2, g3, ol, hg, hid, e0, e1, e2, e3, e4, pcells]; exact Is.mk _) ?_
        repeat' (first
          | (refine sw_seq ?_) | (refine sw_block ?_) | (refine sw_skip ?_) | (refine sw_ret ?_) | (refine sw_exit ?_)
          | (refine n_then ?_) | (refine r_then ?_) | (refine e_then ?_) | (refine n_block ?_) | (refine r_block ?_) | (refine e_block ?_) | (refine o_block rfl ?_)
          | (refine sw_run (by simp [-getElem?_pos, -List.reduceReplicate, List.getElem?_cons_zero, List.getElem?_cons_succ, hw, hsm, hid, e0, e1, e2, e3, e4, pcells]; exact Is.mk _) ?_)
          | (refine sw_true (by simp [-getElem?_pos, -List.reduceReplicate, List.getElem?_cons_zero, List.getElem?_cons_succ, hw, hsm, hid, e0, e1, e2, e3, e4, pcells]; exact Is.mk _) ?_) | (refine sw_false (by simp [-getElem?_pos, -List.reduceReplicate, List.getElem?_cons_zero, List.getElem?_cons_succ, hw, hsm, hid, e0, e1, e2, e3, e4, pcells]; exact Is.mk _) ?_)
          | (refine sw_yes (by simp; exact Is.mk _) (by assumption) ?_)
          | (refine sw_no (by simp; exact Is.mk _) (by assumption) ?_)
          | (refine sw_if (by simp; exact Is.mk _) (fun _ => ?_) (fun _ => ?_)))
        exact ⟨(m + 1, i + 1, out ++ [i]), ⟨by simp only; omega, by simp only; omega, filt_yes hi hf hout⟩, by simp only; omega, weak_cut_hp (by simp) (by simp [hid, e0, e1, e2, e3, e4, rints_app, convL_bits]) (by simp [hn, hn0])⟩
    · obtain rfl : m = w.n.toNat := by omega
      repeat' (first
        | (refine sw_seq ?_) | (refine sw_block ?_) | (refine sw_skip ?_) | (refine sw_ret ?_) | (refine sw_exit ?_)
        | (refine n_then ?_) | (refine r_then ?_) | (refine e_then ?_) | (refine n_block ?_) | (refine r_block ?_) | (refine e_block ?_) | (refine o_block rfl ?_)
        | (refine sw_run (by simp [-getElem?_pos, -List.reduceReplicate, List.getElem?_cons_zero, List.getElem?_cons_succ, hlt, hid, e0, e1, e2, e3, e4, pcells]; exact Is.mk _) ?_)
        | (refine sw_true (by simp [-getElem?_pos, -List.reduceReplicate, List.getElem?_cons_zero, List.getElem?_cons_succ, hlt, hid, e0, e1, e2, e3, e4, pcells]; exact Is.mk _) ?_) | (refine sw_false (by simp [-getElem?_pos, -List.reduceReplicate, List.getElem?_cons_zero, List.getElem?_cons_succ, hlt, hid, e0, e1, e2, e3, e4, pcells]; exact Is.mk _) ?_)
        | (refine sw_yes (by simp; exact Is.mk _) (by assumption) ?_)
        | (refine sw_no (by simp; exact Is.mk _) (by assumption) ?_)
        | (refine sw_if (by simp; exact Is.mk _) (fun _ => ?_) (fun _ => ?_)))
      exact end_own (es := ints out) (by simp; exact Is.mk _) (by simp; exact Is.mk _) rfl (by simp) (hn 4) (by simp [hn0, hn]) ⟨rfl, by rw [hout]; rfl⟩

end Go.AM
