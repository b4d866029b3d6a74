/- The reference's OnlyCorrupt; blame.look. -/
import Derived.Test.YtmljoaiedihoiaaDoorB6
namespace Go.AM
set_option linter.unusedVariables false
set_option linter.unusedSimpArgs false
open Go Go.RowKit Go.Proofs

def onlyL (bad : List Int) : List Int → Bool
  | [] => true
  | x :: r => inL bad x && onlyL bad r

set_option maxHeartbeats 1000000 in
theorem ronly_spec (w : Scen) (r : Res) (hbad : Small w.bad.length) (h0 : 0 ≤ w.n) (h13 : w.n ≤ 13) (hdet : ∀ x ∈ r.det, Small x.length) (hdl : Small r.det.length) :
    Pure Tryd.prog 20 [scenA w, resA r] (ab (onlyL w.bad (detL w r))) := by
  refine pure_of Tryd.func20 rfl Tryd.ntmps20 (by simp) fun F n hF hn hn0 => ?_
  have hdl2 := det_len w r h13
  have hds : Small (detL w r).length := Small.mk (by omega)
  repeat' (first
    | (refine sw_seq ?_) | (refine sw_block ?_) | (refine sw_skip ?_) | (refine sw_ret ?_) | (refine sw_exit ?_)
    | (refine n_then ?_) | (refine r_then ?_) | (refine e_then ?_) | (refine n_block ?_) | (refine r_block ?_) | (refine e_block ?_) | (refine o_block rfl ?_)
    | (refine sw_run (by simp [-getElem?_pos, -List.reduceReplicate, List.getElem?_cons_zero, List.getElem?_cons_succ, ]; exact Is.mk _) ?_)
    | (refine sw_true (by simp [-getElem?_pos, -List.reduceReplicate, List.getElem?_cons_zero, List.getElem?_cons_succ, ]; exact Is.mk _) ?_) | (refine sw_false (by simp [-getElem?_pos, -List.reduceReplicate, List.getElem?_cons_zero, List.getElem?_cons_succ, ]; exact Is.mk _) ?_)
    | (refine sw_yes (by simp; exact Is.mk _) (by assumption) ?_)
    | (refine sw_no (by simp; exact Is.mk _) (by assumption) ?_)
    | (refine sw_if (by simp; exact Is.mk _) (fun _ => ?_) (fun _ => ?_)))
  refine sw_ss ?_
  repeat (refine ss_op rfl (by simp [-getElem?_pos, -List.reduceReplicate, List.getElem?_cons_zero, List.getElem?_cons_succ, ]; exact Is.mk _) ?_)
  refine ss_pure rfl rfl rfl (by simp [-getElem?_pos, -List.reduceReplicate, List.getElem?_cons_zero, List.getElem?_cons_succ]; exact Is.mk _) (by kernel_rfl) (rdet_spec w r hbad h0 h13 hdet hdl) ?_
  refine ss_all (by simp [-getElem?_pos, -List.reduceReplicate, List.getElem?_cons_zero, List.getElem?_cons_succ, ]; exact Is.mk _) ?_
  repeat' (first
    | (refine sw_seq ?_) | (refine sw_block ?_) | (refine sw_skip ?_) | (refine sw_ret ?_) | (refine sw_exit ?_)
    | (refine n_then ?_) | (refine r_then ?_) | (refine e_then ?_) | (refine n_block ?_) | (refine r_block ?_) | (refine e_block ?_) | (refine o_block rfl ?_)
    | (refine sw_run (by simp [-getElem?_pos, -List.reduceReplicate, List.getElem?_cons_zero, List.getElem?_cons_succ, ]; exact Is.mk _) ?_)
    | (refine sw_true (by simp [-getElem?_pos, -List.reduceReplicate, List.getElem?_cons_zero, List.getElem?_cons_succ, ]; exact Is.mk _) ?_) | (refine sw_false (by simp [-getElem?_pos, -List.reduceReplicate, List.getElem?_cons_zero, List.getElem?_cons_succ, ]; exact Is.mk _) ?_)
    | (refine sw_yes (by simp; exact Is.mk _) (by assumption) ?_)
    | (refine sw_no (by simp; exact Is.mk _) (by assumption) ?_)
    | (refine sw_if (by simp; exact Is.mk _) (fun _ => ?_) (fun _ => ?_)))
  refine sw_loopI (α := Nat) (fun k => [(2, .ptr n 0 0 0), (5, .p (.sl 1 (ints (detL w r)))), (6, ai k)])
    (fun x => [(n, .row 0 42 6 [scenR w])]) (fun _ => n + 2)
    (fun k => k ≤ (detL w r).length ∧ onlyL w.bad ((detL w r).drop k) = onlyL w.bad (detL w r)) (fun k => (detL w r).length - k) 0 ⟨Nat.zero_le _, rfl⟩ ?_ ?_ ?_
  · intro _
    exact weak_cut_hp (by simp) (by simp) (by simp [hn])
  · intro x
    exact fresh_of hF (by omega) (by simp)
  · rintro k ⟨hk, hR⟩
    by_cases hlt : k < (detL w r).length
    · obtain ⟨x, hx⟩ := get_lt hlt
      have hw := wrap_succ hlt hds
      rw [drop_cons hx] at hR
      simp only [onlyL] at hR
      repeat' (first
        | (refine sw_seq ?_) | (refine sw_block ?_) | (refine sw_skip ?_) | (refine sw_ret ?_) | (refine sw_exit ?_)
        | (refine n_then ?_) | (refine r_then ?_) | (refine e_then ?_) | (refine n_block ?_) | (refine r_block ?_) | (refine e_block ?_) | (refine o_block rfl ?_)
        | (refine sw_run (by simp [-getElem?_pos, -List.reduceReplicate, List.getElem?_cons_zero, List.getElem?_cons_succ, hlt]; exact Is.mk _) ?_)
        | (refine sw_true (by simp [-getElem?_pos, -List.reduceReplicate, List.getElem?_cons_zero, List.getElem?_cons_succ, hlt]; exact Is.mk _) ?_) | (refine sw_false (by simp [-getElem?_pos, -List.reduceReplicate, List.getElem?_cons_zero, List.getElem?_cons_succ, hlt]; exact Is.mk _) ?_)
        | (refine sw_yes (by simp; exact Is.mk _) (by assumption) ?_)
        | (refine sw_no (by simp; exact Is.mk _) (by assumption) ?_)
        | (refine sw_if (by simp; exact Is.mk _) (fun _ => ?_) (fun _ => ?_)))
      refine sw_draw (us := []) mixed (by kernel_rfl) (by kernel_rfl) ?_
      repeat (refine ds_op rfl (by simp [-getElem?_pos, -List.reduceReplicate, List.getElem?_cons_zero, List.getElem?_cons_succ, hx]; exact Is.mk _) ?_)
      refine ds_pure_g rfl (by simp [-getElem?_pos, -List.reduceReplicate, List.getElem?_cons_zero, List.getElem?_cons_succ, hx]; exact Is.mk _) rfl (by simp [-getElem?_pos, -List.reduceReplicate, List.getElem?_cons_zero, List.getElem?_cons_succ]; exact Is.mk _) (by kernel_rfl) (in_spec w.bad x hbad) ?_
      refine ds_all (by simp [-getElem?_pos, -List.reduceReplicate, List.getElem?_cons_zero, List.getElem?_cons_succ, ]; exact Is.mk _) (disAll_quiet (by simp)) ?_
      cases hv : inL w.bad x
      · rw [hv] at hR
        repeat' (first
          | (refine sw_seq ?_) | (refine sw_block ?_) | (refine sw_skip ?_) | (refine sw_ret ?_) | (refine sw_exit ?_)
          | (refine n_then ?_) | (refine r_then ?_) | (refine e_then ?_) | (refine n_block ?_) | (refine r_block ?_) | (refine e_block ?_) | (refine o_block rfl ?_)
          | (refine sw_run (by simp [-getElem?_pos, -List.reduceReplicate, List.getElem?_cons_zero, List.getElem?_cons_succ, ]; exact Is.mk _) ?_)
          | (refine sw_true (by simp [-getElem?_pos, -List.reduceReplicate, List.getElem?_cons_zero, List.getElem?_cons_succ, ]; exact Is.mk _) ?_) | (refine sw_false (by simp [-getElem?_pos, -List.reduceReplicate, List.getElem?_cons_zero, List.getElem?_cons_succ, ]; exact Is.mk _) ?_)
          | (refine sw_yes (by simp; exact Is.mk _) (by assumption) ?_)
          | (refine sw_no (by simp; exact Is.mk _) (by assumption) ?_)
          | (refine sw_if (by simp; exact Is.mk _) (fun _ => ?_) (fun _ => ?_)))
        exact end_val (by simp; exact Is.mk _) (by simp [hn0, hn]) ⟨rfl, by simp [← hR]⟩
      · rw [hv] at hR
        repeat' (first
          | (refine sw_seq ?_) | (refine sw_block ?_) | (refine sw_skip ?_) | (refine sw_ret ?_) | (refine sw_exit ?_)
          | (refine n_then ?_) | (refine r_then ?_) | (refine e_then ?_) | (refine n_block ?_) | (refine r_block ?_) | (refine e_block ?_) | (refine o_block rfl ?_)
          | (refine sw_run (by simp [-getElem?_pos, -List.reduceReplicate, List.getElem?_cons_zero, List.getElem?_cons_succ, hw]; exact Is.mk _) ?_)
          | (refine sw_true (by simp [-getElem?_pos, -List.reduceReplicate, List.getElem?_cons_zero, List.getElem?_cons_succ, hw]; exact Is.mk _) ?_) | (refine sw_false (by simp [-getElem?_pos, -List.reduceReplicate, List.getElem?_cons_zero, List.getElem?_cons_succ, hw]; exact Is.mk _) ?_)
          | (refine sw_yes (by simp; exact Is.mk _) (by assumption) ?_)
          | (refine sw_no (by simp; exact Is.mk _) (by assumption) ?_)
          | (refine sw_if (by simp; exact Is.mk _) (fun _ => ?_) (fun _ => ?_)))
        exact ⟨k + 1, ⟨by omega, by simpa using hR⟩, by omega, weak_cut_hp (by simp) (by simp) (by simp)⟩
    · obtain rfl : k = (detL w r).length := by omega
      simp only [List.drop_length, onlyL] at hR
      repeat' (first
        | (refine sw_seq ?_) | (refine sw_block ?_) | (refine sw_skip ?_) | (refine sw_ret ?_) | (refine sw_exit ?_)
        | (refine n_then ?_) | (refine r_then ?_) | (refine e_then ?_) | (refine n_block ?_) | (refine r_block ?_) | (refine e_block ?_) | (refine o_block rfl ?_)
        | (refine sw_run (by simp [-getElem?_pos, -List.reduceReplicate, List.getElem?_cons_zero, List.getElem?_cons_succ, hlt]; exact Is.mk _) ?_)
        | (refine sw_true (by simp [-getElem?_pos, -List.reduceReplicate, List.getElem?_cons_zero, List.getElem?_cons_succ, hlt]; exact Is.mk _) ?_) | (refine sw_false (by simp [-getElem?_pos, -List.reduceReplicate, List.getElem?_cons_zero, List.getElem?_cons_succ, hlt]; exact Is.mk _) ?_)
        | (refine sw_yes (by simp; exact Is.mk _) (by assumption) ?_)
        | (refine sw_no (by simp; exact Is.mk _) (by assumption) ?_)
        | (refine sw_if (by simp; exact Is.mk _) (fun _ => ?_) (fun _ => ?_)))
      exact end_val (by simp; exact Is.mk _) (by simp [hn0, hn]) ⟨rfl, by rw [← hR]⟩

/-! ### look -/

/-- Who is out, by number. -/
def outsL (q : Int) (m : List Bool) (i : Nat) : List Bool → List Bool
  | [] => m
  | x :: r => outsL q (if (i : Int) < q then m.set (i + 1) x else m) (i + 1) r
def seeRow (q : Int) (m : List Bool) (j : Int) : List Int → List Bool
  | [] => m
  | x :: r => seeRow q (if 1 ≤ x ∧ x ≤ q then m.set (x.toNat * 14 + j.toNat) true else m) j r
def seeAll (q : Int) (det : List (List Int)) (m : List Bool) : List Int → List Bool
  | [] => m
  | j :: r => seeAll q det (if j ≤ det.length then seeRow q m j (det.getD (j - 1).toNat []) else m) r
def outB (w : Scen) (r : Res) : List Bool := outsL w.n (List.replicate 14 false) 0 r.dis
def byB (w : Scen) (r : Res) : List Bool := seeAll w.n r.det (List.replicate 196 false) (honL w.bad w.n)

theorem outs_len {q : Int} : ∀ {l m : List Bool} {i : Nat}, (outsL q m i l).length = m.length
  | [], _, _ => rfl
  | x :: r, m, i => by rw [outsL, outs_len (l := r)]; split <;> simp
theorem seeRow_len {q j : Int} : ∀ {l : List Int} {m : List Bool}, (seeRow q m j l).length = m.length
  | [], _ => rfl
  | x :: r, m => by rw [seeRow, seeRow_len (l := r)]; split <;> simp
theorem seeAll_len {q : Int} {det : List (List Int)} : ∀ {l : List Int} {m : List Bool}, (seeAll q det m l).length = m.length
  | [], _ => rfl
  | x :: r, m => by rw [seeAll, seeAll_len (l := r)]; split <;> simp [seeRow_len]
theorem outB_len (w : Scen) (r : Res) : (outB w r).length = 14 := by simp [outB, outs_len]
theorem byB_len (w : Scen) (r : Res) : (byB w r).length = 196 := by rw [byB, seeAll_len, List.length_replicate]

theorem take_bits' {m : List Bool} {k : Nat} (h : m.length = k) : (rbits m).take k = rbits m := List.take_of_length_le (by simp [h])
theorem drop_bits' {m : List Bool} {k : Nat} (h : m.length = k) : (rbits m).drop k = [] := List.drop_eq_nil_of_le (by simp [h])
theorem rbits_putb {m : List Bool} {i : Nat} (b : Bool) (h : i < m.length) : (rbits m).take i ++ ab b :: (rbits m).drop (i + 1) = rbits (m.set i b) := by
  rw [rbits, rbits, List.map_set, List.set_eq_take_append_cons_drop, if_pos (by simpa using h)]

theorem rep_bits (k : Nat) : rbits (List.replicate k false) = List.replicate k (AV.p (.v (.bool false))) := by simp [rbits]

theorem convL_rep {D : Nat → Prop} (k : Nat) : convL D noA (List.replicate k (AV.p (.v (.bool false)))) (List.replicate k (AV.p (.v (.bool false)))) := by
  rw [← rep_bits]; exact convL_bits _

abbrev lookH (n : Nat) (w : Scen) (r : Res) (o b : List Bool) : Locs := [(n + 3, .row 0 71 196 [rbits b]), (n + 2, .row 0 69 14 [rbits o]), (n + 1, .row 0 46 5 [resR r]), (n, .row 0 42 6 [scenR w])]

set_option maxHeartbeats 4000000 in
theorem look_spec (w : Scen) (r : Res) (hbad : Small w.bad.length) (hin : ∀ x ∈ w.bad, 0 ≤ x ∧ x < 14) (h0 : 0 ≤ w.n) (h13 : w.n ≤ 13) (hdet : ∀ x ∈ r.det, Small x.length) (hdl : Small r.det.length) (hdi : Small r.dis.length) :
    Pure Tryd.prog 35 [scenA w, resA r] (.tup [.agg (rbits (outB w r)), .agg (rbits (byB w r))]) := by
  refine pure_of Tryd.func35 rfl Tryd.ntmps35 (by simp) fun F n hF hn hn0 => ?_
  have hhl := hon_len w.bad h13
  have hhs : Small (honL w.bad w.n).length := Small.mk (by omega)
  repeat' (first
    | (refine sw_seq ?_) | (refine sw_block ?_) | (refine sw_skip ?_) | (refine sw_ret ?_) | (refine sw_exit ?_)
    | (refine n_then ?_) | (refine r_then ?_) | (refine e_then ?_) | (refine n_block ?_) | (refine r_block ?_) | (refine e_block ?_) | (refine o_block rfl ?_)
    | (refine sw_run (by simp [-getElem?_pos, -List.reduceReplicate, List.getElem?_cons_zero, List.getElem?_cons_succ, ]; exact Is.mk _) ?_)
    | (refine sw_true (by simp [-getElem?_pos, -List.reduceReplicate, List.getElem?_cons_zero, List.getElem?_cons_succ, ]; exact Is.mk _) ?_) | (refine sw_false (by simp [-getElem?_pos, -List.reduceReplicate, List.getElem?_cons_zero, List.getElem?_cons_succ, ]; exact Is.mk _) ?_)
    | (refine sw_yes (by simp; exact Is.mk _) (by assumption) ?_)
    | (refine sw_no (by simp; exact Is.mk _) (by assumption) ?_)
    | (refine sw_if (by simp; exact Is.mk _) (fun _ => ?_) (fun _ => ?_)))
  refine sw_loopI (α := Nat × List Bool) (fun x => [(2, .ptr n 0 0 0), (3, .ptr (n + 1) 0 0 0), (4, .ptr (n + 2) 0 0 0), (5, .ptr (n + 3) 0 0 0), (13, .p (.sl 1 (bools r.dis))), (14, ai r.dis.length), (15, ai x.1)])
    (fun x => lookH n w r x.2 (List.replicate 196 false)) (fun _ => n + 4)
    (fun x => x.1 ≤ r.dis.length ∧ x.2.length = 14 ∧ outsL w.n x.2 x.1 (r.dis.drop x.1) = outB w r) (fun x => r.dis.length - x.1) (0, List.replicate 14 false) ⟨Nat.zero_le _, by simp, rfl⟩ ?_ ?_ ?_
  · intro _
    exact weak_cut_hp (by simp [-List.reduceReplicate]) (by simp [-List.reduceReplicate, Nat.add_assoc, convL_rep]) (by simp [-List.reduceReplicate])
  · intro x
    exact fresh_of hF (by omega) (by simp [-List.reduceReplicate])
  · rintro ⟨k, m⟩ ⟨hk, hlen, hR⟩
    simp only at hk hlen hR ⊢
    by_cases hlt : k < r.dis.length
    · obtain ⟨x, hx⟩ := get_lt hlt
      have hw := wrap_succ hlt hdi
      rw [drop_cons hx] at hR
      simp only [outsL] at hR
      by_cases h1 : (k : Int) < w.n
      · rw [if_pos h1] at hR
        have g1 : k + 1 ≤ 13 := by omega
        have g2 : k ≤ 12 := by omega
        have g3 : 0 ≤ (k : Int) + 1 := by omega
        have g4 : (k : Int) + 1 < 14 := by omega
        have hput := rbits_putb (m := m) (i := k + 1) x (by omega)
        repeat' (first
          | (refine sw_seq ?_) | (refine sw_block ?_) | (refine sw_skip ?_) | (refine sw_ret ?_) | (refine sw_exit ?_)
          | (refine n_then ?_) | (refine r_then ?_) | (refine e_then ?_) | (refine n_block ?_) | (refine r_block ?_) | (refine e_block ?_) | (refine o_block rfl ?_)
          | (refine sw_run (by simp [-getElem?_pos, -List.reduceReplicate, List.getElem?_cons_zero, List.getElem?_cons_succ, hlt, hx, h1, hw, hlen, g1, g2, g3, g4, hput]; exact Is.mk _) ?_)
          | (refine sw_true (by simp [-getElem?_pos, -List.reduceReplicate, List.getElem?_cons_zero, List.getElem?_cons_succ, hlt, hx, h1, hw, hlen, g1, g2, g3, g4, hput]; exact Is.mk _) ?_) | (refine sw_false (by simp [-getElem?_pos, -List.reduceReplicate, List.getElem?_cons_zero, List.getElem?_cons_succ, hlt, hx, h1, hw, hlen, g1, g2, g3, g4, hput]; exact Is.mk _) ?_)
          | (refine sw_yes (by simp; exact Is.mk _) (by assumption) ?_)
          | (refine sw_no (by simp; exact Is.mk _) (by assumption) ?_)
          | (refine sw_if (by simp; exact Is.mk _) (fun _ => ?_) (fun _ => ?_)))
        exact ⟨(k + 1, m.set (k + 1) x), ⟨by simp only; omega, by simp [hlen], hR⟩, by simp only; omega, weak_cut_hp (by simp [-List.reduceReplicate]) (by simp [-List.reduceReplicate, List.map_set, convL_put, convL_bits, convL_rep]) (by simp [-List.reduceReplicate, hn, hn0])⟩
      · rw [if_neg h1] at hR
        repeat' (first
          | (refine sw_seq ?_) | (refine sw_block ?_) | (refine sw_skip ?_) | (refine sw_ret ?_) | (refine sw_exit ?_)
          | (refine n_then ?_) | (refine r_then ?_) | (refine e_then ?_) | (refine n_block ?_) | (refine r_block ?_) | (refine e_block ?_) | (refine o_block rfl ?_)
          | (refine sw_run (by simp [-getElem?_pos, -List.reduceReplicate, List.getElem?_cons_zero, List.getElem?_cons_succ, hlt, hx, h1, hw]; exact Is.mk _) ?_)
          | (refine sw_true (by simp [-getElem?_pos, -List.reduceReplicate, List.getElem?_cons_zero, List.getElem?_cons_succ, hlt, hx, h1, hw]; exact Is.mk _) ?_) | (refine sw_false (by simp [-getElem?_pos, -List.reduceReplicate, List.getElem?_cons_zero, List.getElem?_cons_succ, hlt, hx, h1, hw]; exact Is.mk _) ?_)
          | (refine sw_yes (by simp; exact Is.mk _) (by assumption) ?_)
          | (refine sw_no (by simp; exact Is.mk _) (by assumption) ?_)
          | (refine sw_if (by simp; exact Is.mk _) (fun _ => ?_) (fun _ => ?_)))
        exact ⟨(k + 1, m), ⟨by simp only; omega, hlen, hR⟩, by simp only; omega, weak_cut_hp (by simp [-List.reduceReplicate]) (by simp [-List.reduceReplicate, convL_bits, convL_rep]) (by simp [-List.reduceReplicate, hn, hn0])⟩
    · obtain rfl : k = r.dis.length := by omega
      rw [List.drop_length] at hR
      simp only [outsL] at hR
      subst hR
      repeat' (first
        | (refine sw_seq ?_) | (refine sw_block ?_) | (refine sw_skip ?_) | (refine sw_ret ?_) | (refine sw_exit ?_)
        | (refine n_then ?_) | (refine r_then ?_) | (refine e_then ?_) | (refine n_block ?_) | (refine r_block ?_) | (refine e_block ?_) | (refine o_block rfl ?_)
        | (refine sw_run (by simp [-getElem?_pos, -List.reduceReplicate, List.getElem?_cons_zero, List.getElem?_cons_succ, hlt]; exact Is.mk _) ?_)
        | (refine sw_true (by simp [-getElem?_pos, -List.reduceReplicate, List.getElem?_cons_zero, List.getElem?_cons_succ, hlt]; exact Is.mk _) ?_) | (refine sw_false (by simp [-getElem?_pos, -List.reduceReplicate, List.getElem?_cons_zero, List.getElem?_cons_succ, hlt]; exact Is.mk _) ?_)
        | (refine sw_yes (by simp; exact Is.mk _) (by assumption) ?_)
        | (refine sw_no (by simp; exact Is.mk _) (by assumption) ?_)
        | (refine sw_if (by simp; exact Is.mk _) (fun _ => ?_) (fun _ => ?_)))
      refine sw_ss ?_
      repeat (refine ss_op rfl (by simp [-getElem?_pos, -List.reduceReplicate, List.getElem?_cons_zero, List.getElem?_cons_succ, ]; exact Is.mk _) ?_)
      refine ss_pure rfl rfl rfl (by simp [-getElem?_pos, -List.reduceReplicate, List.getElem?_cons_zero, List.getElem?_cons_succ]; exact Is.mk _) (by kernel_rfl) (honest_spec w.p w.n w.t w.bad hbad hin h0 h13) ?_
      refine ss_all (by simp [-getElem?_pos, -List.reduceReplicate, List.getElem?_cons_zero, List.getElem?_cons_succ, ]; exact Is.mk _) ?_
      repeat' (first
        | (refine sw_seq ?_) | (refine sw_block ?_) | (refine sw_skip ?_) | (refine sw_ret ?_) | (refine sw_exit ?_)
        | (refine n_then ?_) | (refine r_then ?_) | (refine e_then ?_) | (refine n_block ?_) | (refine r_block ?_) | (refine e_block ?_) | (refine o_block rfl ?_)
        | (refine sw_run (by simp [-getElem?_pos, -List.reduceReplicate, List.getElem?_cons_zero, List.getElem?_cons_succ, ]; exact Is.mk _) ?_)
        | (refine sw_true (by simp [-getElem?_pos, -List.reduceReplicate, List.getElem?_cons_zero, List.getElem?_cons_succ, ]; exact Is.mk _) ?_) | (refine sw_false (by simp [-getElem?_pos, -List.reduceReplicate, List.getElem?_cons_zero, List.getElem?_cons_succ, ]; exact Is.mk _) ?_)
        | (refine sw_yes (by simp; exact Is.mk _) (by assumption) ?_)
        | (refine sw_no (by simp; exact Is.mk _) (by assumption) ?_)
        | (refine sw_if (by simp; exact Is.mk _) (fun _ => ?_) (fun _ => ?_)))
      refine sw_loopI (α := Nat × List Bool) (fun x => [(2, .ptr n 0 0 0), (3, .ptr (n + 1) 0 0 0), (4, .ptr (n + 2) 0 0 0), (5, .ptr (n + 3) 0 0 0), (34, .p (.sl 1 (ints (honL w.bad w.n)))), (35, ai (honL w.bad w.n).length), (36, ai x.1)])
        (fun x => lookH n w r (outB w r) x.2) (fun _ => n + 4)
        (fun x => x.1 ≤ (honL w.bad w.n).length ∧ x.2.length = 196 ∧ seeAll w.n r.det x.2 ((honL w.bad w.n).drop x.1) = byB w r) (fun x => (honL w.bad w.n).length - x.1) (0, List.replicate 196 false) ⟨Nat.zero_le _, List.length_replicate .., rfl⟩ ?_ ?_ ?_
      · intro _
        exact weak_cut_hp (by simp [-List.reduceReplicate]) (by simp [-List.reduceReplicate, Nat.add_assoc, convL_rep, convL_bits]) (by simp [-List.reduceReplicate])
      · intro x
        exact fresh_of hF (by omega) (by simp [-List.reduceReplicate])
      · rintro ⟨k, m⟩ ⟨hk, hlen, hR⟩
        simp only at hk hlen hR ⊢
        by_cases hlt : k < (honL w.bad w.n).length
        · obtain ⟨j, hj⟩ := get_lt hlt
          have hw := wrap_succ hlt hhs
          have hjm := filt_mem.1 (List.mem_of_getElem? hj)
          have j1 : 1 ≤ j := hjm.1
          have j2 : j ≤ 13 := by have := hjm.2.1; omega
          rw [drop_cons hj] at hR
          simp only [seeAll] at hR
          by_cases h2 : (r.det.length : Int) < j
          · rw [if_neg (by omega)] at hR
            repeat' (first
              | (refine sw_seq ?_) | (refine sw_block ?_) | (refine sw_skip ?_) | (refine sw_ret ?_) | (refine sw_exit ?_)
              | (refine n_then ?_) | (refine r_then ?_) | (refine e_then ?_) | (refine n_block ?_) | (refine r_block ?_) | (refine e_block ?_) | (refine o_block rfl ?_)
              | (refine sw_run (by simp [-getElem?_pos, -List.reduceReplicate, List.getElem?_cons_zero, List.getElem?_cons_succ, hlt, hj, h2, hw]; exact Is.mk _) ?_)
              | (refine sw_true (by simp [-getElem?_pos, -List.reduceReplicate, List.getElem?_cons_zero, List.getElem?_cons_succ, hlt, hj, h2, hw]; exact Is.mk _) ?_) | (refine sw_false (by simp [-getElem?_pos, -List.reduceReplicate, List.getElem?_cons_zero, List.getElem?_cons_succ, hlt, hj, h2, hw]; exact Is.mk _) ?_)
              | (refine sw_yes (by simp; exact Is.mk _) (by assumption) ?_)
              | (refine sw_no (by simp; exact Is.mk _) (by assumption) ?_)
              | (refine sw_if (by simp; exact Is.mk _) (fun _ => ?_) (fun _ => ?_)))
            exact ⟨(k + 1, m), ⟨by simp only; omega, hlen, hR⟩, by simp only; omega, weak_cut_hp (by simp [-List.reduceReplicate]) (by simp [-List.reduceReplicate, convL_bits]) (by simp [-List.reduceReplicate, hn, hn0])⟩
          · rw [if_pos (by omega)] at hR
            have hjd : j.toNat - 1 < r.det.length := by omega
            obtain ⟨y, hy⟩ := get_lt hjd
            have hw1 : IntKind.i64.wrap (j - 1) = j - 1 := i64_in (by omega)
            have hys := hdet y (List.mem_of_getElem? hy)
            rw [show (j - 1).toNat = j.toNat - 1 by omega, List.getD_eq_getElem?_getD, hy, Option.getD_some] at hR
            repeat' (first
              | (refine sw_seq ?_) | (refine sw_block ?_) | (refine sw_skip ?_) | (refine sw_ret ?_) | (refine sw_exit ?_)
              | (refine n_then ?_) | (refine r_then ?_) | (refine e_then ?_) | (refine n_block ?_) | (refine r_block ?_) | (refine e_block ?_) | (refine o_block rfl ?_)
              | (refine sw_run (by simp [-getElem?_pos, -List.reduceReplicate, List.getElem?_cons_zero, List.getElem?_cons_succ, hlt, hj, h2, hw1, j1, hy]; exact Is.mk _) ?_)
              | (refine sw_true (by simp [-getElem?_pos, -List.reduceReplicate, List.getElem?_cons_zero, List.getElem?_cons_succ, hlt, hj, h2, hw1, j1, hy]; exact Is.mk _) ?_) | (refine sw_false (by simp [-getElem?_pos, -List.reduceReplicate, List.getElem?_cons_zero, List.getElem?_cons_succ, hlt, hj, h2, hw1, j1, hy]; exact Is.mk _) ?_)
              | (refine sw_yes (by simp; exact Is.mk _) (by assumption) ?_)
              | (refine sw_no (by simp; exact Is.mk _) (by assumption) ?_)
              | (refine sw_if (by simp; exact Is.mk _) (fun _ => ?_) (fun _ => ?_)))
            refine sw_loopI (α := Nat × List Bool) (fun x => [(2, .ptr n 0 0 0), (3, .ptr (n + 1) 0 0 0), (4, .ptr (n + 2) 0 0 0), (5, .ptr (n + 3) 0 0 0), (9, ai j), (34, .p (.sl 1 (ints (honL w.bad w.n)))), (35, ai (honL w.bad w.n).length), (36, ai k), (50, .p (.sl 1 (ints y))), (51, ai y.length), (52, ai x.1)])
              (fun x => lookH n w r (outB w r) x.2) (fun _ => n + 4)
              (fun x => x.1 ≤ y.length ∧ x.2.length = 196 ∧ seeAll w.n r.det (seeRow w.n x.2 j (y.drop x.1)) ((honL w.bad w.n).drop (k + 1)) = byB w r) (fun x => y.length - x.1) (0, m) ⟨Nat.zero_le _, hlen, hR⟩ ?_ ?_ ?_
            · intro _
              exact weak_cut_hp (by simp [-List.reduceReplicate]) (by simp [-List.reduceReplicate, convL_bits]) (by simp [-List.reduceReplicate])
            · intro x
              exact fresh_of hF (by omega) (by simp [-List.reduceReplicate])
            · rintro ⟨a, m⟩ ⟨ha, hlen, hR⟩
              simp only at ha hlen hR ⊢
              by_cases hal : a < y.length
              · obtain ⟨x, hx⟩ := get_lt hal
                have hwa := wrap_succ hal hys
                rw [drop_cons hx] at hR
                simp only [seeRow] at hR
                by_cases x1 : 1 ≤ x
                · by_cases x2 : x ≤ w.n
                  · rw [if_pos ⟨x1, x2⟩] at hR
                    have x3 : 0 ≤ x := by omega
                    have x4 : x < 14 := by omega
                    have j3 : 0 ≤ j := by omega
                    have j4 : j < 14 := by omega
                    have q1 : x.toNat * 14 + j.toNat ≤ 195 := by omega
                    have q2 : x.toNat * 14 + j.toNat < 196 := by omega
                    have hput := rbits_putb (m := m) (i := x.toNat * 14 + j.toNat) true (by omega)
                    repeat' (first
                      | (refine sw_seq ?_) | (refine sw_block ?_) | (refine sw_skip ?_) | (refine sw_ret ?_) | (refine sw_exit ?_)
                      | (refine n_then ?_) | (refine r_then ?_) | (refine e_then ?_) | (refine n_block ?_) | (refine r_block ?_) | (refine e_block ?_) | (refine o_block rfl ?_)
                      | (refine sw_run (by simp [-getElem?_pos, -List.reduceReplicate, List.getElem?_cons_zero, List.getElem?_cons_succ, hal, hx, x1, x2, x3, x4, j3, j4, q1, q2, hlen, hput, hwa]; exact Is.mk _) ?_)
                      | (refine sw_true (by simp [-getElem?_pos, -List.reduceReplicate, List.getElem?_cons_zero, List.getElem?_cons_succ, hal, hx, x1, x2, x3, x4, j3, j4, q1, q2, hlen, hput, hwa]; exact Is.mk _) ?_) | (refine sw_false (by simp [-getElem?_pos, -List.reduceReplicate, List.getElem?_cons_zero, List.getElem?_cons_succ, hal, hx, x1, x2, x3, x4, j3, j4, q1, q2, hlen, hput, hwa]; exact Is.mk _) ?_)
                      | (refine sw_yes (by simp; exact Is.mk _) (by assumption) ?_)
                      | (refine sw_no (by simp; exact Is.mk _) (by assumption) ?_)
                      | (refine sw_if (by simp; exact Is.mk _) (fun _ => ?_) (fun _ => ?_)))
                    exact ⟨(a + 1, m.set (x.toNat * 14 + j.toNat) true), ⟨by simp only; omega, by simp [hlen], hR⟩, by simp only; omega, weak_cut_hp (by simp [-List.reduceReplicate]) (by simp [-List.reduceReplicate, List.map_set, convL_put, convL_bits]) (by simp [-List.reduceReplicate, hn, hn0])⟩
                  · rw [if_neg fun h => x2 h.2] at hR
                    repeat' (first
                      | (refine sw_seq ?_) | (refine sw_block ?_) | (refine sw_skip ?_) | (refine sw_ret ?_) | (refine sw_exit ?_)
                      | (refine n_then ?_) | (refine r_then ?_) | (refine e_then ?_) | (refine n_block ?_) | (refine r_block ?_) | (refine e_block ?_) | (refine o_block rfl ?_)
                      | (refine sw_run (by simp [-getElem?_pos, -List.reduceReplicate, List.getElem?_cons_zero, List.getElem?_cons_succ, hal, hx, x1, x2, hwa]; exact Is.mk _) ?_)
                      | (refine sw_true (by simp [-getElem?_pos, -List.reduceReplicate, List.getElem?_cons_zero, List.getElem?_cons_succ, hal, hx, x1, x2, hwa]; exact Is.mk _) ?_) | (refine sw_false (by simp [-getElem?_pos, -List.reduceReplicate, List.getElem?_cons_zero, List.getElem?_cons_succ, hal, hx, x1, x2, hwa]; exact Is.mk _) ?_)
                      | (refine sw_yes (by simp; exact Is.mk _) (by assumption) ?_)
                      | (refine sw_no (by simp; exact Is.mk _) (by assumption) ?_)
                      | (refine sw_if (by simp; exact Is.mk _) (fun _ => ?_) (fun _ => ?_)))
                    exact ⟨(a + 1, m), ⟨by simp only; omega, hlen, hR⟩, by simp only; omega, weak_cut_hp (by simp [-List.reduceReplicate]) (by simp [-List.reduceReplicate, convL_bits]) (by simp [-List.reduceReplicate, hn, hn0])⟩
                · rw [if_neg fun h => x1 h.1] at hR
                  repeat' (first
                    | (refine sw_seq ?_) | (refine sw_block ?_) | (refine sw_skip ?_) | (refine sw_ret ?_) | (refine sw_exit ?_)
                    | (refine n_then ?_) | (refine r_then ?_) | (refine e_then ?_) | (refine n_block ?_) | (refine r_block ?_) | (refine e_block ?_) | (refine o_block rfl ?_)
                    | (refine sw_run (by simp [-getElem?_pos, -List.reduceReplicate, List.getElem?_cons_zero, List.getElem?_cons_succ, hal, hx, x1, hwa]; exact Is.mk _) ?_)
                    | (refine sw_true (by simp [-getElem?_pos, -List.reduceReplicate, List.getElem?_cons_zero, List.getElem?_cons_succ, hal, hx, x1, hwa]; exact Is.mk _) ?_) | (refine sw_false (by simp [-getElem?_pos, -List.reduceReplicate, List.getElem?_cons_zero, List.getElem?_cons_succ, hal, hx, x1, hwa]; exact Is.mk _) ?_)
                    | (refine sw_yes (by simp; exact Is.mk _) (by assumption) ?_)
                    | (refine sw_no (by simp; exact Is.mk _) (by assumption) ?_)
                    | (refine sw_if (by simp; exact Is.mk _) (fun _ => ?_) (fun _ => ?_)))
                  exact ⟨(a + 1, m), ⟨by simp only; omega, hlen, hR⟩, by simp only; omega, weak_cut_hp (by simp [-List.reduceReplicate]) (by simp [-List.reduceReplicate, convL_bits]) (by simp [-List.reduceReplicate, hn, hn0])⟩
              · obtain rfl : a = y.length := by omega
                rw [List.drop_length] at hR
                simp only [seeRow] at hR
                repeat' (first
                  | (refine sw_seq ?_) | (refine sw_block ?_) | (refine sw_skip ?_) | (refine sw_ret ?_) | (refine sw_exit ?_)
                  | (refine n_then ?_) | (refine r_then ?_) | (refine e_then ?_) | (refine n_block ?_) | (refine r_block ?_) | (refine e_block ?_) | (refine o_block rfl ?_)
                  | (refine sw_run (by simp [-getElem?_pos, -List.reduceReplicate, List.getElem?_cons_zero, List.getElem?_cons_succ, hal, hw]; exact Is.mk _) ?_)
                  | (refine sw_true (by simp [-getElem?_pos, -List.reduceReplicate, List.getElem?_cons_zero, List.getElem?_cons_succ, hal, hw]; exact Is.mk _) ?_) | (refine sw_false (by simp [-getElem?_pos, -List.reduceReplicate, List.getElem?_cons_zero, List.getElem?_cons_succ, hal, hw]; exact Is.mk _) ?_)
                  | (refine sw_yes (by simp; exact Is.mk _) (by assumption) ?_)
                  | (refine sw_no (by simp; exact Is.mk _) (by assumption) ?_)
                  | (refine sw_if (by simp; exact Is.mk _) (fun _ => ?_) (fun _ => ?_)))
                exact ⟨(k + 1, m), ⟨by simp only; omega, hlen, hR⟩, by simp only; omega, weak_cut_hp (by simp [-List.reduceReplicate]) (by simp [-List.reduceReplicate, convL_bits]) (by simp [-List.reduceReplicate, hn, hn0])⟩
        · obtain rfl : k = (honL w.bad w.n).length := by omega
          rw [List.drop_length] at hR
          simp only [seeAll] at hR
          subst hR
          have ol := outB_len w r
          have t1 := take_bits' ol
          have t2 := drop_bits' ol
          have bl := byB_len w r
          have t3 := take_bits' bl
          have t4 := drop_bits' bl
          repeat' (first
            | (refine sw_seq ?_) | (refine sw_block ?_) | (refine sw_skip ?_) | (refine sw_ret ?_) | (refine sw_exit ?_)
            | (refine n_then ?_) | (refine r_then ?_) | (refine e_then ?_) | (refine n_block ?_) | (refine r_block ?_) | (refine e_block ?_) | (refine o_block rfl ?_)
            | (refine sw_run (by simp [-getElem?_pos, -List.reduceReplicate, List.getElem?_cons_zero, List.getElem?_cons_succ, hlt]; exact Is.mk _) ?_)
            | (refine sw_true (by simp [-getElem?_pos, -List.reduceReplicate, List.getElem?_cons_zero, List.getElem?_cons_succ, hlt]; exact Is.mk _) ?_) | (refine sw_false (by simp [-getElem?_pos, -List.reduceReplicate, List.getElem?_cons_zero, List.getElem?_cons_succ, hlt]; exact Is.mk _) ?_)
            | (refine sw_yes (by simp; exact Is.mk _) (by assumption) ?_)
            | (refine sw_no (by simp; exact Is.mk _) (by assumption) ?_)
            | (refine sw_if (by simp; exact Is.mk _) (fun _ => ?_) (fun _ => ?_)))
          refine sw_draw (us := [(1,2)]) mixed (by kernel_rfl) (by kernel_rfl) (ds_all (by simp [-getElem?_pos, -List.reduceReplicate, List.getElem?_cons_zero, List.getElem?_cons_succ, ol, t1, t2, bl, t3, t4]; exact Is.mk _) (by simp [disAll, EDisj, wids, rids]) ?_)
          repeat' (first
            | (refine sw_seq ?_) | (refine sw_block ?_) | (refine sw_skip ?_) | (refine sw_ret ?_) | (refine sw_exit ?_)
            | (refine n_then ?_) | (refine r_then ?_) | (refine e_then ?_) | (refine n_block ?_) | (refine r_block ?_) | (refine e_block ?_) | (refine o_block rfl ?_)
            | (refine sw_run (by simp [-getElem?_pos, -List.reduceReplicate, List.getElem?_cons_zero, List.getElem?_cons_succ, ]; exact Is.mk _) ?_)
            | (refine sw_true (by simp [-getElem?_pos, -List.reduceReplicate, List.getElem?_cons_zero, List.getElem?_cons_succ, ]; exact Is.mk _) ?_) | (refine sw_false (by simp [-getElem?_pos, -List.reduceReplicate, List.getElem?_cons_zero, List.getElem?_cons_succ, ]; exact Is.mk _) ?_)
            | (refine sw_yes (by simp; exact Is.mk _) (by assumption) ?_)
            | (refine sw_no (by simp; exact Is.mk _) (by assumption) ?_)
            | (refine sw_if (by simp; exact Is.mk _) (fun _ => ?_) (fun _ => ?_)))
          exact end_plain (x := .tup [.agg (rbits (outB w r)), .agg (rbits (byB w r))]) (by simp [ol, t1, bl, t3]; exact Is.mk _) (fun D => by simp [conv, convL, convL_bits]) (by simp [hn0, hn]) ⟨rfl, rfl⟩

end Go.AM
