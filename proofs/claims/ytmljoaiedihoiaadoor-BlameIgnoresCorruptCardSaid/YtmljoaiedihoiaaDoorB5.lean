/- params.HonestParties; the reference's out, seen, Detected, OnlyCorrupt. -/
import Derived.Test.YtmljoaiedihoiaaDoorB4
namespace Go.AM
set_option linter.unusedVariables false
set_option linter.unusedSimpArgs false
open Go Go.RowKit Go.Proofs

@[simp] theorem take1 {α : Type} (l : List α) (i : Nat) : (List.take 1 (List.drop i l)).head? = l[i]? := by
  rw [← List.head?_drop]
  cases List.drop i l <;> simp
theorem bits_at {m : List Bool} {i : Nat} {b : Bool} (h : m[i]? = some b) : (rbits m)[i]? = some (ab b) := by simp [rbits, h]
theorem memL_len (bad : List Int) : (memL bad).length = 14 := by simp [memL, marks_len]

set_option maxHeartbeats 2000000 in
theorem honest_spec (p q t : Int) (bad : List Int) (hbad : Small bad.length) (hin : ∀ x ∈ bad, 0 ≤ x ∧ x < 14) (h0 : 0 ≤ q) (h13 : q ≤ 13) : Pure Tryd.prog 56 [parA p q t, .p (.sl 1 (ints bad))] (.p (.sl 1 (ints (honL bad q)))) := by
  refine pure_of Tryd.func56 rfl Tryd.ntmps56 (by simp) fun F n hF hn hn0 => ?_
  have hml := memL_len bad
  repeat' (first
    | (refine sw_seq ?_) | (refine sw_block ?_) | (refine sw_skip ?_) | (refine sw_ret ?_) | (refine sw_exit ?_)
    | (refine n_then ?_) | (refine r_then ?_) | (refine e_then ?_) | (refine n_block ?_) | (refine r_block ?_) | (refine e_block ?_) | (refine o_block rfl ?_)
    | (refine sw_run (by simp [-getElem?_pos, List.getElem?_cons_zero, List.getElem?_cons_succ, ]; exact Is.mk _) ?_)
    | (refine sw_true (by simp [-getElem?_pos, List.getElem?_cons_zero, List.getElem?_cons_succ, ]; exact Is.mk _) ?_) | (refine sw_false (by simp [-getElem?_pos, List.getElem?_cons_zero, List.getElem?_cons_succ, ]; exact Is.mk _) ?_)
    | (refine sw_yes (by simp; exact Is.mk _) (by assumption) ?_)
    | (refine sw_no (by simp; exact Is.mk _) (by assumption) ?_)
    | (refine sw_if (by simp; exact Is.mk _) (fun _ => ?_) (fun _ => ?_)))
  refine sw_ss ?_
  repeat (refine ss_op rfl (by simp [-getElem?_pos, List.getElem?_cons_zero, List.getElem?_cons_succ, ]; exact Is.mk _) ?_)
  refine ss_pure rfl rfl rfl (by simp [-getElem?_pos, List.getElem?_cons_zero, List.getElem?_cons_succ]; exact Is.mk _) (by kernel_rfl) (members_spec bad hbad hin) ?_
  refine ss_all (by simp [-getElem?_pos, List.getElem?_cons_zero, List.getElem?_cons_succ, hml]; exact Is.mk _) ?_
  repeat' (first
    | (refine sw_seq ?_) | (refine sw_block ?_) | (refine sw_skip ?_) | (refine sw_ret ?_) | (refine sw_exit ?_)
    | (refine n_then ?_) | (refine r_then ?_) | (refine e_then ?_) | (refine n_block ?_) | (refine r_block ?_) | (refine e_block ?_) | (refine o_block rfl ?_)
    | (refine sw_run (by simp [-getElem?_pos, List.getElem?_cons_zero, List.getElem?_cons_succ, ]; exact Is.mk _) ?_)
    | (refine sw_true (by simp [-getElem?_pos, List.getElem?_cons_zero, List.getElem?_cons_succ, ]; exact Is.mk _) ?_) | (refine sw_false (by simp [-getElem?_pos, List.getElem?_cons_zero, List.getElem?_cons_succ, ]; exact Is.mk _) ?_)
    | (refine sw_yes (by simp; exact Is.mk _) (by assumption) ?_)
    | (refine sw_no (by simp; exact Is.mk _) (by assumption) ?_)
    | (refine sw_if (by simp; exact Is.mk _) (fun _ => ?_) (fun _ => ?_)))
  refine sw_loopI (α := Nat × Int × List Int) (fun x => [(2, .ptr n 0 0 0), (5, .ptr (n + 1) 0 0 0), (6, .own (n + 2) x.2.2.length 0 x.2.2.length), (7, ai x.2.1)])
    (fun x => [(n + 2, .row x.2.2.length 3 1 (rints x.2.2)), (n + 1, .row 0 69 14 [rbits (memL bad)]), (n, .row 0 38 3 [[au p, ai q, ai t]])]) (fun _ => n + 3)
    (fun x => x.1 ≤ q.toNat ∧ x.2.1 = ((x.1 + 1 : Nat) : Int) ∧ x.2.2 = filtUp (fun i => !inL bad i) x.1) (fun x => q.toNat - x.1) (0, 1, []) ⟨Nat.zero_le _, rfl, rfl⟩ ?_ ?_ ?_
  · intro _
    refine weak_adopt_hp (id := n + 2) (sz := 1) (e := 3) (by simp [hn]) (by simp [ints, pcells]) (by simp [conv, convT, nilA]) ?_ (by simp)
    simp
  · intro x
    exact fresh_of hF (by omega) (by simp)
  · rintro ⟨m, i, out⟩ ⟨hm, hi, hout⟩
    simp only at hm hi hout ⊢
    have hlen : out.length ≤ m := by rw [hout]; exact filt_len _ _
    by_cases hlt : i ≤ q
    · have hw : IntKind.i64.wrap (i + 1) = i + 1 := i64_in (by omega)
      have hsm : Small (out.length + 1) := Small.mk (by omega)
      have g1 : 0 ≤ i := by omega
      have g2 : i < 14 := by omega
      have g3 : i ≤ 13 := by omega
      have hg := mem_get (bad := bad) (i := i.toNat) (fun x hx => (hin x hx).1) (by omega)
      rw [Int.toNat_of_nonneg g1] at hg
      have hb2 := bits_at hg
      cases hb : inL bad i
      · rw [hb] at hb2 hg
        repeat' (first
          | (refine sw_seq ?_) | (refine sw_block ?_) | (refine sw_skip ?_) | (refine sw_ret ?_) | (refine sw_exit ?_)
          | (refine n_then ?_) | (refine r_then ?_) | (refine e_then ?_) | (refine n_block ?_) | (refine r_block ?_) | (refine e_block ?_) | (refine o_block rfl ?_)
          | (refine sw_run (by simp [-getElem?_pos, List.getElem?_cons_zero, List.getElem?_cons_succ, hlt, g1, g2, g3, hml, hb2, hg, hw, hsm]; exact Is.mk _) ?_)
          | (refine sw_true (by simp [-getElem?_pos, List.getElem?_cons_zero, List.getElem?_cons_succ, hlt, g1, g2, g3, hml, hb2, hg, hw, hsm]; exact Is.mk _) ?_) | (refine sw_false (by simp [-getElem?_pos, List.getElem?_cons_zero, List.getElem?_cons_succ, hlt, g1, g2, g3, hml, hb2, hg, hw, hsm]; exact Is.mk _) ?_)
          | (refine sw_yes (by simp; exact Is.mk _) (by assumption) ?_)
          | (refine sw_no (by simp; exact Is.mk _) (by assumption) ?_)
          | (refine sw_if (by simp; exact Is.mk _) (fun _ => ?_) (fun _ => ?_)))
        exact ⟨(m + 1, i + 1, out ++ [i]), ⟨by simp only; omega, by simp only; omega, filt_yes hi (by simp [hb]) hout⟩, by simp only; omega, weak_cut_hp (by simp) (by simp [rints_app, convL_bits]) (by simp [hn, hn0])⟩
      · rw [hb] at hb2 hg
        repeat' (first
          | (refine sw_seq ?_) | (refine sw_block ?_) | (refine sw_skip ?_) | (refine sw_ret ?_) | (refine sw_exit ?_)
          | (refine n_then ?_) | (refine r_then ?_) | (refine e_then ?_) | (refine n_block ?_) | (refine r_block ?_) | (refine e_block ?_) | (refine o_block rfl ?_)
          | (refine sw_run (by simp [-getElem?_pos, List.getElem?_cons_zero, List.getElem?_cons_succ, hlt, g1, g2, g3, hml, hb2, hg, hw]; exact Is.mk _) ?_)
          | (refine sw_true (by simp [-getElem?_pos, List.getElem?_cons_zero, List.getElem?_cons_succ, hlt, g1, g2, g3, hml, hb2, hg, hw]; exact Is.mk _) ?_) | (refine sw_false (by simp [-getElem?_pos, List.getElem?_cons_zero, List.getElem?_cons_succ, hlt, g1, g2, g3, hml, hb2, hg, hw]; exact Is.mk _) ?_)
          | (refine sw_yes (by simp; exact Is.mk _) (by assumption) ?_)
          | (refine sw_no (by simp; exact Is.mk _) (by assumption) ?_)
          | (refine sw_if (by simp; exact Is.mk _) (fun _ => ?_) (fun _ => ?_)))
        exact ⟨(m + 1, i + 1, out), ⟨by simp only; omega, by simp only; omega, filt_no hi (by simp [hb]) hout⟩, by simp only; omega, weak_cut_hp (by simp) (by simp [convL_bits]) (by simp [hn, hn0])⟩
    · obtain rfl : m = q.toNat := by omega
      repeat' (first
        | (refine sw_seq ?_) | (refine sw_block ?_) | (refine sw_skip ?_) | (refine sw_ret ?_) | (refine sw_exit ?_)
        | (refine n_then ?_) | (refine r_then ?_) | (refine e_then ?_) | (refine n_block ?_) | (refine r_block ?_) | (refine e_block ?_) | (refine o_block rfl ?_)
        | (refine sw_run (by simp [-getElem?_pos, List.getElem?_cons_zero, List.getElem?_cons_succ, hlt]; exact Is.mk _) ?_)
        | (refine sw_true (by simp [-getElem?_pos, List.getElem?_cons_zero, List.getElem?_cons_succ, hlt]; exact Is.mk _) ?_) | (refine sw_false (by simp [-getElem?_pos, List.getElem?_cons_zero, List.getElem?_cons_succ, hlt]; exact Is.mk _) ?_)
        | (refine sw_yes (by simp; exact Is.mk _) (by assumption) ?_)
        | (refine sw_no (by simp; exact Is.mk _) (by assumption) ?_)
        | (refine sw_if (by simp; exact Is.mk _) (fun _ => ?_) (fun _ => ?_)))
      exact end_own (es := ints out) (by simp; exact Is.mk _) (by simp; exact Is.mk _) rfl (by simp) (hn 2) (by simp [hn0, hn]) ⟨rfl, by rw [hout]; rfl⟩

/-! ### out -/

/-- Is party i among the disqualified. -/
def disq (l : List Bool) (i : Int) : Bool := decide (1 ≤ i) && l.getD (i - 1).toNat false

theorem disq_lt {l : List Bool} {i : Int} (h1 : 1 ≤ i) (h2 : i ≤ l.length) : l[i.toNat - 1]? = some (disq l i) := by
  have h : i.toNat - 1 < l.length := by omega
  unfold disq
  rw [show (i - 1).toNat = i.toNat - 1 by omega, List.getD_eq_getElem?_getD, List.getElem?_eq_getElem h]
  simp [h1]

set_option maxHeartbeats 1000000 in
theorem rout_spec (r : Res) (i : Int) (hi : i < 1000000) : Pure Tryd.prog 37 [resA r, ai i] (ab (disq r.dis i)) := by
  refine pure_of Tryd.func37 rfl Tryd.ntmps37 (by simp) fun F n hF hn hn0 => ?_
  by_cases h1 : 1 ≤ i
  · by_cases h2 : i ≤ r.dis.length
    · have hg := disq_lt h1 h2
      have hw : IntKind.i64.wrap (i - 1) = i - 1 := i64_in (by omega)
      have h3 : 0 ≤ i - 1 := by omega
      repeat' (first
        | (refine sw_seq ?_) | (refine sw_block ?_) | (refine sw_skip ?_) | (refine sw_ret ?_) | (refine sw_exit ?_)
        | (refine n_then ?_) | (refine r_then ?_) | (refine e_then ?_) | (refine n_block ?_) | (refine r_block ?_) | (refine e_block ?_) | (refine o_block rfl ?_)
        | (refine sw_run (by simp [-getElem?_pos, List.getElem?_cons_zero, List.getElem?_cons_succ, h1, h2, hw, h3, hg]; exact Is.mk _) ?_)
        | (refine sw_true (by simp [-getElem?_pos, List.getElem?_cons_zero, List.getElem?_cons_succ, h1, h2, hw, h3, hg]; exact Is.mk _) ?_) | (refine sw_false (by simp [-getElem?_pos, List.getElem?_cons_zero, List.getElem?_cons_succ, h1, h2, hw, h3, hg]; exact Is.mk _) ?_)
        | (refine sw_yes (by simp; exact Is.mk _) (by assumption) ?_)
        | (refine sw_no (by simp; exact Is.mk _) (by assumption) ?_)
        | (refine sw_if (by simp; exact Is.mk _) (fun _ => ?_) (fun _ => ?_)))
      exact end_val (by simp; exact Is.mk _) (by simp [hn0, hn]) ⟨rfl, rfl⟩
    · have hd : disq r.dis i = false := by
        have : r.dis[(i - 1).toNat]? = none := List.getElem?_eq_none (by omega)
        unfold disq
        rw [List.getD_eq_getElem?_getD, this]
        simp
      repeat' (first
        | (refine sw_seq ?_) | (refine sw_block ?_) | (refine sw_skip ?_) | (refine sw_ret ?_) | (refine sw_exit ?_)
        | (refine n_then ?_) | (refine r_then ?_) | (refine e_then ?_) | (refine n_block ?_) | (refine r_block ?_) | (refine e_block ?_) | (refine o_block rfl ?_)
        | (refine sw_run (by simp [-getElem?_pos, List.getElem?_cons_zero, List.getElem?_cons_succ, h1, h2]; exact Is.mk _) ?_)
        | (refine sw_true (by simp [-getElem?_pos, List.getElem?_cons_zero, List.getElem?_cons_succ, h1, h2]; exact Is.mk _) ?_) | (refine sw_false (by simp [-getElem?_pos, List.getElem?_cons_zero, List.getElem?_cons_succ, h1, h2]; exact Is.mk _) ?_)
        | (refine sw_yes (by simp; exact Is.mk _) (by assumption) ?_)
        | (refine sw_no (by simp; exact Is.mk _) (by assumption) ?_)
        | (refine sw_if (by simp; exact Is.mk _) (fun _ => ?_) (fun _ => ?_)))
      exact end_val (by simp; exact Is.mk _) (by simp [hn0, hn]) ⟨rfl, by rw [hd]⟩
  · have hd : disq r.dis i = false := by simp [disq, h1]
    repeat' (first
      | (refine sw_seq ?_) | (refine sw_block ?_) | (refine sw_skip ?_) | (refine sw_ret ?_) | (refine sw_exit ?_)
      | (refine n_then ?_) | (refine r_then ?_) | (refine e_then ?_) | (refine n_block ?_) | (refine r_block ?_) | (refine e_block ?_) | (refine o_block rfl ?_)
      | (refine sw_run (by simp [-getElem?_pos, List.getElem?_cons_zero, List.getElem?_cons_succ, h1]; exact Is.mk _) ?_)
      | (refine sw_true (by simp [-getElem?_pos, List.getElem?_cons_zero, List.getElem?_cons_succ, h1]; exact Is.mk _) ?_) | (refine sw_false (by simp [-getElem?_pos, List.getElem?_cons_zero, List.getElem?_cons_succ, h1]; exact Is.mk _) ?_)
      | (refine sw_yes (by simp; exact Is.mk _) (by assumption) ?_)
      | (refine sw_no (by simp; exact Is.mk _) (by assumption) ?_)
      | (refine sw_if (by simp; exact Is.mk _) (fun _ => ?_) (fun _ => ?_)))
    exact end_val (by simp; exact Is.mk _) (by simp [hn0, hn]) ⟨rfl, by rw [hd]⟩

end Go.AM
