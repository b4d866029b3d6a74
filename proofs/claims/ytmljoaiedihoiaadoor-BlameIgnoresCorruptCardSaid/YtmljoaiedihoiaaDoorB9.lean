/- slices.Index and Contains; blame.Detected, OnlyCorrupt. -/
import Derived.Test.YtmljoaiedihoiaaDoorB8
import Derived.Test.YtmljoaiedihoiaaDoorAm31
namespace Go.AM
set_option linter.unusedVariables false
set_option linter.unusedSimpArgs false
open Go Go.RowKit Go.Proofs

/-! ### A row of the table of detections -/

def idxB : List Bool → Nat → Int
  | [], _ => -1
  | b :: r, k => if b then (k : Int) else idxB r (k + 1)
theorem idxB_any : ∀ {l : List Bool} {k : Nat}, decide (0 ≤ idxB l k) = l.any id
  | [], _ => rfl
  | b :: r, k => by
    rw [idxB, List.any_cons, ← idxB_any (l := r) (k := k + 1)]
    cases b <;> simp

abbrev seenB (m : List Bool) : Blk := .row 0 71 196 [rbits m]

set_option maxHeartbeats 1000000 in
theorem indexb_spec (id a : Nat) (m : List Bool) (ha : a < 14) (hlen : m.length = 196) : Does Tryd.prog 57 [.sub id 0 0 (a * 14) 14, ab true] [(id, seenB m)] [] (ai (idxB ((m.drop (a * 14)).take 14) 0)) := by
  refine does_of Tryd.func57 rfl Tryd.ntmps57 (by simp) fun F n hF hn hn0 hrd => ?_
  have hid : F id = some (seenB m) := hrd _ (List.mem_cons_self ..)
  unfold seenB at hid
  repeat' (first
    | (refine sw_seq ?_) | (refine sw_block ?_) | (refine sw_skip ?_) | (refine sw_ret ?_) | (refine sw_exit ?_)
    | (refine n_then ?_) | (refine r_then ?_) | (refine e_then ?_) | (refine n_block ?_) | (refine r_block ?_) | (refine e_block ?_) | (refine o_block rfl ?_)
    | (refine sw_run (by simp [-getElem?_pos, -List.reduceReplicate, List.getElem?_cons_zero, List.getElem?_cons_succ, ]; exact Is.mk _) ?_)
    | (refine sw_true (by simp [-getElem?_pos, -List.reduceReplicate, List.getElem?_cons_zero, List.getElem?_cons_succ, ]; exact Is.mk _) ?_) | (refine sw_false (by simp [-getElem?_pos, -List.reduceReplicate, List.getElem?_cons_zero, List.getElem?_cons_succ, ]; exact Is.mk _) ?_)
    | (refine sw_yes (by simp; exact Is.mk _) (by assumption) ?_)
    | (refine sw_no (by simp; exact Is.mk _) (by assumption) ?_)
    | (refine sw_if (by simp; exact Is.mk _) (fun _ => ?_) (fun _ => ?_)))
  refine sw_loopI (α := Nat) (fun k => [(0, .sub id 0 0 (a * 14) 14), (1, ab true), (7, ai 14), (8, ai k)]) (fun _ => []) (fun _ => n)
    (fun k => k ≤ 14 ∧ idxB (((m.drop (a * 14)).take 14).drop k) k = idxB ((m.drop (a * 14)).take 14) 0) (fun k => 14 - k) 0 ⟨Nat.zero_le _, rfl⟩ ?_ ?_ ?_
  · intro _
    exact weak_cut_hp (by simp [hid]) (by simp) (by simp)
  · intro x
    exact hF
  · rintro k ⟨hk, hR⟩
    by_cases hlt : k < 14
    · obtain ⟨x, hx⟩ := get_lt (l := m) (k := a * 14 + k) (by omega)
      have hx' : ((m.drop (a * 14)).take 14)[k]? = some x := by rw [List.getElem?_take_of_lt hlt, List.getElem?_drop]; exact hx
      have hw : IntKind.i64.wrap ((k : Int) + 1) = ((k + 1 : Nat) : Int) := by rw [i64_in (by omega)]; simp
      have g1 : (k : Int) < 14 := by omega
      have g2 : a * 14 + k < 196 := by omega
      have g3 : a * 14 + k ≤ 195 := by omega
      rw [drop_cons hx'] at hR
      simp only [idxB] at hR
      cases x
      · repeat' (first
          | (refine sw_seq ?_) | (refine sw_block ?_) | (refine sw_skip ?_) | (refine sw_ret ?_) | (refine sw_exit ?_)
          | (refine n_then ?_) | (refine r_then ?_) | (refine e_then ?_) | (refine n_block ?_) | (refine r_block ?_) | (refine e_block ?_) | (refine o_block rfl ?_)
          | (refine sw_run (by simp [-getElem?_pos, -List.reduceReplicate, List.getElem?_cons_zero, List.getElem?_cons_succ, hid, hlt, g1, g2, g3, hlen, hx, hw]; exact Is.mk _) ?_)
          | (refine sw_true (by simp [-getElem?_pos, -List.reduceReplicate, List.getElem?_cons_zero, List.getElem?_cons_succ, hid, hlt, g1, g2, g3, hlen, hx, hw]; exact Is.mk _) ?_) | (refine sw_false (by simp [-getElem?_pos, -List.reduceReplicate, List.getElem?_cons_zero, List.getElem?_cons_succ, hid, hlt, g1, g2, g3, hlen, hx, hw]; exact Is.mk _) ?_)
          | (refine sw_yes (by simp; exact Is.mk _) (by assumption) ?_)
          | (refine sw_no (by simp; exact Is.mk _) (by assumption) ?_)
          | (refine sw_if (by simp; exact Is.mk _) (fun _ => ?_) (fun _ => ?_)))
        exact ⟨k + 1, ⟨by omega, by simpa using hR⟩, by omega, weak_cut_hp (by simp [hid]) (by simp) (by simp)⟩
      · repeat' (first
          | (refine sw_seq ?_) | (refine sw_block ?_) | (refine sw_skip ?_) | (refine sw_ret ?_) | (refine sw_exit ?_)
          | (refine n_then ?_) | (refine r_then ?_) | (refine e_then ?_) | (refine n_block ?_) | (refine r_block ?_) | (refine e_block ?_) | (refine o_block rfl ?_)
          | (refine sw_run (by simp [-getElem?_pos, -List.reduceReplicate, List.getElem?_cons_zero, List.getElem?_cons_succ, hid, hlt, g1, g2, g3, hlen, hx, hw]; exact Is.mk _) ?_)
          | (refine sw_true (by simp [-getElem?_pos, -List.reduceReplicate, List.getElem?_cons_zero, List.getElem?_cons_succ, hid, hlt, g1, g2, g3, hlen, hx, hw]; exact Is.mk _) ?_) | (refine sw_false (by simp [-getElem?_pos, -List.reduceReplicate, List.getElem?_cons_zero, List.getElem?_cons_succ, hid, hlt, g1, g2, g3, hlen, hx, hw]; exact Is.mk _) ?_)
          | (refine sw_yes (by simp; exact Is.mk _) (by assumption) ?_)
          | (refine sw_no (by simp; exact Is.mk _) (by assumption) ?_)
          | (refine sw_if (by simp; exact Is.mk _) (fun _ => ?_) (fun _ => ?_)))
        exact end_val (by simp; exact Is.mk _) (by simp) ⟨rfl, by rw [← hR]; simp⟩
    · obtain rfl : k = 14 := by omega
      rw [List.drop_eq_nil_of_le (by simp; omega)] at hR
      simp only [idxB] at hR
      repeat' (first
        | (refine sw_seq ?_) | (refine sw_block ?_) | (refine sw_skip ?_) | (refine sw_ret ?_) | (refine sw_exit ?_)
        | (refine n_then ?_) | (refine r_then ?_) | (refine e_then ?_) | (refine n_block ?_) | (refine r_block ?_) | (refine e_block ?_) | (refine o_block rfl ?_)
        | (refine sw_run (by simp [-getElem?_pos, -List.reduceReplicate, List.getElem?_cons_zero, List.getElem?_cons_succ, ]; exact Is.mk _) ?_)
        | (refine sw_true (by simp [-getElem?_pos, -List.reduceReplicate, List.getElem?_cons_zero, List.getElem?_cons_succ, ]; exact Is.mk _) ?_) | (refine sw_false (by simp [-getElem?_pos, -List.reduceReplicate, List.getElem?_cons_zero, List.getElem?_cons_succ, ]; exact Is.mk _) ?_)
        | (refine sw_yes (by simp; exact Is.mk _) (by assumption) ?_)
        | (refine sw_no (by simp; exact Is.mk _) (by assumption) ?_)
        | (refine sw_if (by simp; exact Is.mk _) (fun _ => ?_) (fun _ => ?_)))
      exact end_val (by simp; exact Is.mk _) (by simp) ⟨rfl, by rw [← hR]⟩

set_option maxHeartbeats 1000000 in
theorem containsb_spec (id a : Nat) (m : List Bool) (ha : a < 14) (hlen : m.length = 196) : Does Tryd.prog 36 [.sub id 0 0 (a * 14) 14, ab true] [(id, seenB m)] [] (ab (((m.drop (a * 14)).take 14).any _root_.id)) := by
  refine does_of Tryd.func36 rfl Tryd.ntmps36 (by simp) fun F n hF hn hn0 hrd => ?_
  have hid : F id = some (seenB m) := hrd _ (List.mem_cons_self ..)
  repeat' (first
    | (refine sw_seq ?_) | (refine sw_block ?_) | (refine sw_skip ?_) | (refine sw_ret ?_) | (refine sw_exit ?_)
    | (refine n_then ?_) | (refine r_then ?_) | (refine e_then ?_) | (refine n_block ?_) | (refine r_block ?_) | (refine e_block ?_) | (refine o_block rfl ?_)
    | (refine sw_run (by simp [-getElem?_pos, -List.reduceReplicate, List.getElem?_cons_zero, List.getElem?_cons_succ, ]; exact Is.mk _) ?_)
    | (refine sw_true (by simp [-getElem?_pos, -List.reduceReplicate, List.getElem?_cons_zero, List.getElem?_cons_succ, ]; exact Is.mk _) ?_) | (refine sw_false (by simp [-getElem?_pos, -List.reduceReplicate, List.getElem?_cons_zero, List.getElem?_cons_succ, ]; exact Is.mk _) ?_)
    | (refine sw_yes (by simp; exact Is.mk _) (by assumption) ?_)
    | (refine sw_no (by simp; exact Is.mk _) (by assumption) ?_)
    | (refine sw_if (by simp; exact Is.mk _) (fun _ => ?_) (fun _ => ?_)))
  refine sw_ss ?_
  repeat (refine ss_op rfl (by simp [-getElem?_pos, -List.reduceReplicate, List.getElem?_cons_zero, List.getElem?_cons_succ, hid]; exact Is.mk _) ?_)
  refine ss_does rfl (by simp [-getElem?_pos, -List.reduceReplicate, List.getElem?_cons_zero, List.getElem?_cons_succ, hid]; exact Is.mk _) rfl (by simp [-getElem?_pos, -List.reduceReplicate, List.getElem?_cons_zero, List.getElem?_cons_succ, hid]; exact Is.mk _) (by kernel_rfl) (indexb_spec id a m ha hlen) (by simp [-getElem?_pos, -List.reduceReplicate, List.getElem?_cons_zero, List.getElem?_cons_succ, hid]) (by simp [-getElem?_pos, -List.reduceReplicate, List.getElem?_cons_zero, List.getElem?_cons_succ]) ?_
  refine ss_all (by simp [-getElem?_pos, -List.reduceReplicate, List.getElem?_cons_zero, List.getElem?_cons_succ, ]; exact Is.mk _) ?_
  repeat' (first
    | (refine sw_seq ?_) | (refine sw_block ?_) | (refine sw_skip ?_) | (refine sw_ret ?_) | (refine sw_exit ?_)
    | (refine n_then ?_) | (refine r_then ?_) | (refine e_then ?_) | (refine n_block ?_) | (refine r_block ?_) | (refine e_block ?_) | (refine o_block rfl ?_)
    | (refine sw_run (by simp [-getElem?_pos, -List.reduceReplicate, List.getElem?_cons_zero, List.getElem?_cons_succ, ]; exact Is.mk _) ?_)
    | (refine sw_true (by simp [-getElem?_pos, -List.reduceReplicate, List.getElem?_cons_zero, List.getElem?_cons_succ, ]; exact Is.mk _) ?_) | (refine sw_false (by simp [-getElem?_pos, -List.reduceReplicate, List.getElem?_cons_zero, List.getElem?_cons_succ, ]; exact Is.mk _) ?_)
    | (refine sw_yes (by simp; exact Is.mk _) (by assumption) ?_)
    | (refine sw_no (by simp; exact Is.mk _) (by assumption) ?_)
    | (refine sw_if (by simp; exact Is.mk _) (fun _ => ?_) (fun _ => ?_)))
  exact end_val (by simp; exact Is.mk _) (by simp) ⟨rfl, by rw [← idxB_any (k := 0)]⟩

/-! ### Detected -/

set_option maxHeartbeats 2000000 in
theorem det_spec (w : Scen) (r : Res) (hbad : Small w.bad.length) (hin : ∀ x ∈ w.bad, 0 ≤ x ∧ x < 14) (h0 : 0 ≤ w.n) (h13 : w.n ≤ 13) (hdet : ∀ x ∈ r.det, Small x.length) (hdl : Small r.det.length) (hdi : Small r.dis.length) :
    Pure Tryd.prog 17 [scenA w, resA r] (.p (.sl 1 (ints (detL w r)))) := by
  refine pure_of Tryd.func17 rfl Tryd.ntmps17 (by simp) fun F n hF hn hn0 => ?_
  have ol := outB_len w r
  have t1 := take_bits' ol
  have t2 := drop_bits' ol
  have bl := byB_len w r
  have t3 := take_bits' bl
  have t4 := drop_bits' bl
  repeat' (first
    | (refine sw_seq ?_) | (refine sw_block ?_) | (refine sw_skip ?_) | (refine sw_ret ?_) | (refine sw_exit ?_)
    | (refine n_then ?_) | (refine r_then ?_) | (refine e_then ?_) | (refine n_block ?_) | (refine r_block ?_) | (refine e_block ?_) | (refine o_block rfl ?_)
    | (refine sw_run (by simp [-getElem?_pos, -List.reduceReplicate, List.getElem?_cons_zero, List.getElem?_cons_succ, ]; exact Is.mk _) ?_)
    | (refine sw_true (by simp [-getElem?_pos, -List.reduceReplicate, List.getElem?_cons_zero, List.getElem?_cons_succ, ]; exact Is.mk _) ?_) | (refine sw_false (by simp [-getElem?_pos, -List.reduceReplicate, List.getElem?_cons_zero, List.getElem?_cons_succ, ]; exact Is.mk _) ?_)
    | (refine sw_yes (by simp; exact Is.mk _) (by assumption) ?_)
    | (refine sw_no (by simp; exact Is.mk _) (by assumption) ?_)
    | (refine sw_if (by simp; exact Is.mk _) (fun _ => ?_) (fun _ => ?_)))
  refine sw_ss ?_
  repeat (refine ss_op rfl (by simp [-getElem?_pos, -List.reduceReplicate, List.getElem?_cons_zero, List.getElem?_cons_succ, ]; exact Is.mk _) ?_)
  refine ss_pure rfl rfl rfl (by simp [-getElem?_pos, -List.reduceReplicate, List.getElem?_cons_zero, List.getElem?_cons_succ]; exact Is.mk _) (by kernel_rfl) (look_spec w r hbad hin h0 h13 hdet hdl hdi) ?_
  refine ss_all (by simp [-getElem?_pos, -List.reduceReplicate, List.getElem?_cons_zero, List.getElem?_cons_succ, ol, t1, t2, bl, t3, t4]; exact Is.mk _) ?_
  repeat' (first
    | (refine sw_seq ?_) | (refine sw_block ?_) | (refine sw_skip ?_) | (refine sw_ret ?_) | (refine sw_exit ?_)
    | (refine n_then ?_) | (refine r_then ?_) | (refine e_then ?_) | (refine n_block ?_) | (refine r_block ?_) | (refine e_block ?_) | (refine o_block rfl ?_)
    | (refine sw_run (by simp [-getElem?_pos, -List.reduceReplicate, List.getElem?_cons_zero, List.getElem?_cons_succ, ]; exact Is.mk _) ?_)
    | (refine sw_true (by simp [-getElem?_pos, -List.reduceReplicate, List.getElem?_cons_zero, List.getElem?_cons_succ, ]; exact Is.mk _) ?_) | (refine sw_false (by simp [-getElem?_pos, -List.reduceReplicate, List.getElem?_cons_zero, List.getElem?_cons_succ, ]; exact Is.mk _) ?_)
    | (refine sw_yes (by simp; exact Is.mk _) (by assumption) ?_)
    | (refine sw_no (by simp; exact Is.mk _) (by assumption) ?_)
    | (refine sw_if (by simp; exact Is.mk _) (fun _ => ?_) (fun _ => ?_)))
  refine sw_loopI (α := Nat × Int × List Int) (fun x => [(2, .ptr n 0 0 0), (5, .ptr (n + 2) 0 0 0), (6, .ptr (n + 3) 0 0 0), (7, .own (n + 4) x.2.2.length 0 x.2.2.length), (8, ai x.2.1)])
    (fun x => [(n + 4, .row x.2.2.length 3 1 (rints x.2.2)), (n + 3, .row 0 71 196 [rbits (byB w r)]), (n + 2, .row 0 69 14 [rbits (outB w r)]), (n + 1, .row 0 46 5 [resR r]), (n, .row 0 42 6 [scenR w])]) (fun _ => n + 5)
    (fun x => x.1 ≤ w.n.toNat ∧ x.2.1 = ((x.1 + 1 : Nat) : Int) ∧ x.2.2 = filtUp (detF w r) x.1) (fun x => w.n.toNat - x.1) (0, 1, []) ⟨Nat.zero_le _, rfl, rfl⟩ ?_ ?_ ?_
  · intro _
    refine weak_adopt_hp (id := n + 4) (sz := 1) (e := 3) (by simp [-List.reduceReplicate, Nat.add_assoc, hn]) (by simp [ints, pcells]) (by simp [-List.reduceReplicate, Nat.add_assoc, conv, convT, nilA]) ?_ (by simp [-List.reduceReplicate, Nat.add_assoc])
    simp [-List.reduceReplicate, Nat.add_assoc]
  · intro x
    exact fresh_of hF (by omega) (by simp)
  · rintro ⟨m, i, out⟩ ⟨hm, hi, hout⟩
    simp only at hm hi hout ⊢
    have hlen : out.length ≤ m := by rw [hout]; exact filt_len _ _
    by_cases hlt : i ≤ w.n
    · have hw : IntKind.i64.wrap (i + 1) = i + 1 := i64_in (by omega)
      have hsm : Small (out.length + 1) := Small.mk (by omega)
      have g1 : 0 ≤ i := by omega
      have g2 : i < 14 := by omega
      have g3 : i ≤ 13 := by omega
      have hi1 : 1 ≤ i := by omega
      have hg := outB_get w r hi1 hlt h13
      repeat' (first
        | (refine sw_seq ?_) | (refine sw_block ?_) | (refine sw_skip ?_) | (refine sw_ret ?_) | (refine sw_exit ?_)
        | (refine n_then ?_) | (refine r_then ?_) | (refine e_then ?_) | (refine n_block ?_) | (refine r_block ?_) | (refine e_block ?_) | (refine o_block rfl ?_)
        | (refine sw_run (by simp [-getElem?_pos, -List.reduceReplicate, List.getElem?_cons_zero, List.getElem?_cons_succ, hlt]; exact Is.mk _) ?_)
        | (refine sw_true (by simp [-getElem?_pos, -List.reduceReplicate, List.getElem?_cons_zero, List.getElem?_cons_succ, hlt]; exact Is.mk _) ?_) | (refine sw_false (by simp [-getElem?_pos, -List.reduceReplicate, List.getElem?_cons_zero, List.getElem?_cons_succ, hlt]; exact Is.mk _) ?_)
        | (refine sw_yes (by simp; exact Is.mk _) (by assumption) ?_)
        | (refine sw_no (by simp; exact Is.mk _) (by assumption) ?_)
        | (refine sw_if (by simp; exact Is.mk _) (fun _ => ?_) (fun _ => ?_)))
      refine sw_ss ?_
      cases hb : disq r.dis i
      · rw [hb] at hg
        have hra := row_any w r (a := i.toNat) (by omega) (by omega) h13
        rw [Int.toNat_of_nonneg g1] at hra
        repeat (refine ss_op rfl (by simp [-getElem?_pos, -List.reduceReplicate, List.getElem?_cons_zero, List.getElem?_cons_succ, g1, g2, g3, ol, hg]; exact Is.mk _) ?_)
        refine ss_does rfl (by simp [-getElem?_pos, -List.reduceReplicate, List.getElem?_cons_zero, List.getElem?_cons_succ, g1, g2, g3, ol, hg]; exact Is.mk _) rfl (by simp [-getElem?_pos, -List.reduceReplicate, List.getElem?_cons_zero, List.getElem?_cons_succ, g1, g2, g3, ol, hg]; exact Is.mk _) (by kernel_rfl) (containsb_spec (n + 3) i.toNat (byB w r) (by omega) bl) (by simp [-getElem?_pos, -List.reduceReplicate, List.getElem?_cons_zero, List.getElem?_cons_succ, g1, g2, g3, ol, hg]) (by simp [-getElem?_pos, -List.reduceReplicate, List.getElem?_cons_zero, List.getElem?_cons_succ]) ?_
        rw [show ((byB w r).drop (i.toNat * 14)).take 14 = rowB w r i.toNat from rfl, hra]
        by_cases hs : 0 < (seenL w.bad w.n r.det i).length
        · have hf : detF w r i = true := by simp only [detF, hb, hs]; rfl
          refine ss_all (by simp [-getElem?_pos, -List.reduceReplicate, List.getElem?_cons_zero, List.getElem?_cons_succ, hs]; exact Is.mk _) ?_
          repeat' (first
            | (refine sw_seq ?_) | (refine sw_block ?_) | (refine sw_skip ?_) | (refine sw_ret ?_) | (refine sw_exit ?_)
            | (refine n_then ?_) | (refine r_then ?_) | (refine e_then ?_) | (refine n_block ?_) | (refine r_block ?_) | (refine e_block ?_) | (refine o_block rfl ?_)
            | (refine sw_run (by simp [-getElem?_pos, -List.reduceReplicate, List.getElem?_cons_zero, List.getElem?_cons_succ, hw, hsm]; exact Is.mk _) ?_)
            | (refine sw_true (by simp [-getElem?_pos, -List.reduceReplicate, List.getElem?_cons_zero, List.getElem?_cons_succ, hw, hsm]; exact Is.mk _) ?_) | (refine sw_false (by simp [-getElem?_pos, -List.reduceReplicate, List.getElem?_cons_zero, List.getElem?_cons_succ, hw, hsm]; exact Is.mk _) ?_)
            | (refine sw_yes (by simp; exact Is.mk _) (by assumption) ?_)
            | (refine sw_no (by simp; exact Is.mk _) (by assumption) ?_)
            | (refine sw_if (by simp; exact Is.mk _) (fun _ => ?_) (fun _ => ?_)))
          exact ⟨(m + 1, i + 1, out ++ [i]), ⟨by simp only; omega, by simp only; omega, filt_yes hi hf hout⟩, by simp only; omega, weak_cut_hp (by simp) (by simp [rints_app, convL_bits]) (by simp [hn, hn0])⟩
        · have hf : detF w r i = false := by simp only [detF, hb, hs]; rfl
          refine ss_all (by simp [-getElem?_pos, -List.reduceReplicate, List.getElem?_cons_zero, List.getElem?_cons_succ, hs]; exact Is.mk _) ?_
          repeat' (first
            | (refine sw_seq ?_) | (refine sw_block ?_) | (refine sw_skip ?_) | (refine sw_ret ?_) | (refine sw_exit ?_)
            | (refine n_then ?_) | (refine r_then ?_) | (refine e_then ?_) | (refine n_block ?_) | (refine r_block ?_) | (refine e_block ?_) | (refine o_block rfl ?_)
            | (refine sw_run (by simp [-getElem?_pos, -List.reduceReplicate, List.getElem?_cons_zero, List.getElem?_cons_succ, hw, hsm]; exact Is.mk _) ?_)
            | (refine sw_true (by simp [-getElem?_pos, -List.reduceReplicate, List.getElem?_cons_zero, List.getElem?_cons_succ, hw, hsm]; exact Is.mk _) ?_) | (refine sw_false (by simp [-getElem?_pos, -List.reduceReplicate, List.getElem?_cons_zero, List.getElem?_cons_succ, hw, hsm]; exact Is.mk _) ?_)
            | (refine sw_yes (by simp; exact Is.mk _) (by assumption) ?_)
            | (refine sw_no (by simp; exact Is.mk _) (by assumption) ?_)
            | (refine sw_if (by simp; exact Is.mk _) (fun _ => ?_) (fun _ => ?_)))
          exact ⟨(m + 1, i + 1, out), ⟨by simp only; omega, by simp only; omega, filt_no hi hf hout⟩, by simp only; omega, weak_cut_hp (by simp) (by simp [convL_bits]) (by simp [hn, hn0])⟩
      · rw [hb] at hg
        have hf : detF w r i = true := by simp only [detF, hb, Bool.true_or]
        refine ss_all (by simp [-getElem?_pos, -List.reduceReplicate, List.getElem?_cons_zero, List.getElem?_cons_succ, g1, g2, g3, ol, hg]; exact Is.mk _) ?_
        repeat' (first
          | (refine sw_seq ?_) | (refine sw_block ?_) | (refine sw_skip ?_) | (refine sw_ret ?_) | (refine sw_exit ?_)
          | (refine n_then ?_) | (refine r_then ?_) | (refine e_then ?_) | (refine n_block ?_) | (refine r_block ?_) | (refine e_block ?_) | (refine o_block rfl ?_)
          | (refine sw_run (by simp [-getElem?_pos, -List.reduceReplicate, List.getElem?_cons_zero, List.getElem?_cons_succ, hw, hsm]; exact Is.mk _) ?_)
          | (refine sw_true (by simp [-getElem?_pos, -List.reduceReplicate, List.getElem?_cons_zero, List.getElem?_cons_succ, hw, hsm]; exact Is.mk _) ?_) | (refine sw_false (by simp [-getElem?_pos, -List.reduceReplicate, List.getElem?_cons_zero, List.getElem?_cons_succ, hw, hsm]; exact Is.mk _) ?_)
          | (refine sw_yes (by simp; exact Is.mk _) (by assumption) ?_)
          | (refine sw_no (by simp; exact Is.mk _) (by assumption) ?_)
          | (refine sw_if (by simp; exact Is.mk _) (fun _ => ?_) (fun _ => ?_)))
        exact ⟨(m + 1, i + 1, out ++ [i]), ⟨by simp only; omega, by simp only; omega, filt_yes hi hf hout⟩, by simp only; omega, weak_cut_hp (by simp) (by simp [rints_app, convL_bits]) (by simp [hn, hn0])⟩
    · obtain rfl : m = w.n.toNat := by omega
      repeat' (first
        | (refine sw_seq ?_) | (refine sw_block ?_) | (refine sw_skip ?_) | (refine sw_ret ?_) | (refine sw_exit ?_)
        | (refine n_then ?_) | (refine r_then ?_) | (refine e_then ?_) | (refine n_block ?_) | (refine r_block ?_) | (refine e_block ?_) | (refine o_block rfl ?_)
        | (refine sw_run (by simp [-getElem?_pos, -List.reduceReplicate, List.getElem?_cons_zero, List.getElem?_cons_succ, hlt]; exact Is.mk _) ?_)
        | (refine sw_true (by simp [-getElem?_pos, -List.reduceReplicate, List.getElem?_cons_zero, List.getElem?_cons_succ, hlt]; exact Is.mk _) ?_) | (refine sw_false (by simp [-getElem?_pos, -List.reduceReplicate, List.getElem?_cons_zero, List.getElem?_cons_succ, hlt]; exact Is.mk _) ?_)
        | (refine sw_yes (by simp; exact Is.mk _) (by assumption) ?_)
        | (refine sw_no (by simp; exact Is.mk _) (by assumption) ?_)
        | (refine sw_if (by simp; exact Is.mk _) (fun _ => ?_) (fun _ => ?_)))
      exact end_own (es := ints out) (by simp; exact Is.mk _) (by simp; exact Is.mk _) rfl (by simp) (hn 4) (by simp [hn0, hn]) ⟨rfl, by rw [hout]; rfl⟩

end Go.AM
