/- The reference's seen, Detected, OnlyCorrupt. -/
import Derived.Test.YtmljoaiedihoiaaDoorB5
namespace Go.AM
set_option linter.unusedVariables false
set_option linter.unusedSimpArgs false
open Go Go.RowKit Go.Proofs

def tells (det : List (List Int)) (i j : Int) : Bool := decide (j ≤ det.length) && inL (det.getD (j - 1).toNat []) i
def seenL (bad : List Int) (q : Int) (det : List (List Int)) (i : Int) : List Int := (honL bad q).filter (tells det i)

theorem filter_snoc {f : Int → Bool} {l : List Int} {k : Nat} {x : Int} (h : l[k]? = some x) : (l.take (k + 1)).filter f = (l.take k).filter f ++ if f x then [x] else [] := by
  rw [take_snoc h, List.filter_append]
  by_cases hx : f x <;> simp [hx]

theorem hon_len (bad : List Int) {q : Int} (h : q ≤ 13) : (honL bad q).length ≤ 13 := by
  have := filt_len (fun i => !inL bad i) q.toNat
  unfold honL
  omega

set_option maxHeartbeats 2000000 in
theorem rseen_spec (w : Scen) (r : Res) (i : Int) (hbad : Small w.bad.length) (h0 : 0 ≤ w.n) (h13 : w.n ≤ 13) (hdet : ∀ x ∈ r.det, Small x.length) (hdl : Small r.det.length) :
    Pure Tryd.prog 38 [scenA w, resA r, ai i] (.p (.sl 1 (ints (seenL w.bad w.n r.det i)))) := by
  refine pure_of Tryd.func38 rfl Tryd.ntmps38 (by simp) fun F n hF hn hn0 => ?_
  have hhl := hon_len w.bad h13
  have hhs : Small (honL w.bad w.n).length := Small.mk (by omega)
  repeat' (first
    | (refine sw_seq ?_) | (refine sw_block ?_) | (refine sw_skip ?_) | (refine sw_ret ?_) | (refine sw_exit ?_)
    | (refine n_then ?_) | (refine r_then ?_) | (refine e_then ?_) | (refine n_block ?_) | (refine r_block ?_) | (refine e_block ?_) | (refine o_block rfl ?_)
    | (refine sw_run (by simp [-getElem?_pos, List.getElem?_cons_zero, List.getElem?_cons_succ, ]; exact Is.mk _) ?_)
    | (refine sw_true (by simp [-getElem?_pos, List.getElem?_cons_zero, List.getElem?_cons_succ, ]; exact Is.mk _) ?_) | (refine sw_false (by simp [-getElem?_pos, List.getElem?_cons_zero, List.getElem?_cons_succ, ]; exact Is.mk _) ?_)
    | (refine sw_yes (by simp; exact Is.mk _) (by assumption) ?_)
    | (refine sw_no (by simp; exact Is.mk _) (by assumption) ?_)
    | (refine sw_if (by simp; exact Is.mk _) (fun _ => ?_) (fun _ => ?_)))
  refine sw_ss ?_
  repeat (refine ss_op rfl (by simp [-getElem?_pos, List.getElem?_cons_zero, List.getElem?_cons_succ, ]; exact Is.mk _) ?_)
  refine ss_pure rfl rfl rfl (by simp [-getElem?_pos, List.getElem?_cons_zero, List.getElem?_cons_succ]; exact Is.mk _) (by kernel_rfl) (rhonest_spec w.p w.n w.t w.bad hbad h0 h13) ?_
  refine ss_all (by simp [-getElem?_pos, List.getElem?_cons_zero, List.getElem?_cons_succ, ]; exact Is.mk _) ?_
  repeat' (first
    | (refine sw_seq ?_) | (refine sw_block ?_) | (refine sw_skip ?_) | (refine sw_ret ?_) | (refine sw_exit ?_)
    | (refine n_then ?_) | (refine r_then ?_) | (refine e_then ?_) | (refine n_block ?_) | (refine r_block ?_) | (refine e_block ?_) | (refine o_block rfl ?_)
    | (refine sw_run (by simp [-getElem?_pos, List.getElem?_cons_zero, List.getElem?_cons_succ, ]; exact Is.mk _) ?_)
    | (refine sw_true (by simp [-getElem?_pos, List.getElem?_cons_zero, List.getElem?_cons_succ, ]; exact Is.mk _) ?_) | (refine sw_false (by simp [-getElem?_pos, List.getElem?_cons_zero, List.getElem?_cons_succ, ]; exact Is.mk _) ?_)
    | (refine sw_yes (by simp; exact Is.mk _) (by assumption) ?_)
    | (refine sw_no (by simp; exact Is.mk _) (by assumption) ?_)
    | (refine sw_if (by simp; exact Is.mk _) (fun _ => ?_) (fun _ => ?_)))
  refine sw_loopI (α := Nat × List Int) (fun x => [(2, ai i), (3, .ptr n 0 0 0), (4, .ptr (n + 1) 0 0 0), (7, .own (n + 2) x.2.length 0 x.2.length), (8, .p (.sl 1 (ints (honL w.bad w.n)))), (9, ai x.1)])
    (fun x => [(n + 2, .row x.2.length 3 1 (rints x.2)), (n + 1, .row 0 46 5 [resR r]), (n, .row 0 42 6 [scenR w])]) (fun _ => n + 3)
    (fun x => x.1 ≤ (honL w.bad w.n).length ∧ x.2 = ((honL w.bad w.n).take x.1).filter (tells r.det i)) (fun x => (honL w.bad w.n).length - x.1) (0, []) ⟨Nat.zero_le _, by simp⟩ ?_ ?_ ?_
  · intro _
    refine weak_adopt_hp (id := n + 2) (sz := 1) (e := 3) (by simp [hn]) (by simp [ints, pcells]) (by simp [conv, convT, nilA]) ?_ (by simp)
    simp
  · intro x
    exact fresh_of hF (by omega) (by simp)
  · rintro ⟨k, out⟩ ⟨hk, hout⟩
    simp only at hk hout ⊢
    have hlen : out.length ≤ k := by
      rw [hout]; exact Nat.le_trans (List.length_filter_le ..) (by simp; omega)
    by_cases hlt : k < (honL w.bad w.n).length
    · obtain ⟨j, hj⟩ := get_lt hlt
      have hjm := filt_mem.1 (List.mem_of_getElem? hj)
      have hw := wrap_succ hlt hhs
      have hsm : Small (out.length + 1) := Small.mk (by omega)
      have hsn := filter_snoc (f := tells r.det i) hj
      rw [← hout] at hsn
      repeat' (first
        | (refine sw_seq ?_) | (refine sw_block ?_) | (refine sw_skip ?_) | (refine sw_ret ?_) | (refine sw_exit ?_)
        | (refine n_then ?_) | (refine r_then ?_) | (refine e_then ?_) | (refine n_block ?_) | (refine r_block ?_) | (refine e_block ?_) | (refine o_block rfl ?_)
        | (refine sw_run (by simp [-getElem?_pos, List.getElem?_cons_zero, List.getElem?_cons_succ, hlt, hj]; exact Is.mk _) ?_)
        | (refine sw_true (by simp [-getElem?_pos, List.getElem?_cons_zero, List.getElem?_cons_succ, hlt, hj]; exact Is.mk _) ?_) | (refine sw_false (by simp [-getElem?_pos, List.getElem?_cons_zero, List.getElem?_cons_succ, hlt, hj]; exact Is.mk _) ?_)
        | (refine sw_yes (by simp; exact Is.mk _) (by assumption) ?_)
        | (refine sw_no (by simp; exact Is.mk _) (by assumption) ?_)
        | (refine sw_if (by simp; exact Is.mk _) (fun _ => ?_) (fun _ => ?_)))
      refine sw_ss ?_
      by_cases h2 : j ≤ r.det.length
      · have hjd : j.toNat - 1 < r.det.length := by omega
        obtain ⟨y, hy⟩ := get_lt hjd
        have hw1 : IntKind.i64.wrap (j - 1) = j - 1 := i64_in (by omega)
        have h3 : 1 ≤ j := hjm.1
        have ht : tells r.det i j = inL y i := by
          unfold tells
          rw [show (j - 1).toNat = j.toNat - 1 by omega, List.getD_eq_getElem?_getD, hy]
          simp [h2]
        rw [ht] at hsn
        repeat (refine ss_op rfl (by simp [-getElem?_pos, List.getElem?_cons_zero, List.getElem?_cons_succ, h2, hw1, h3, hy]; exact Is.mk _) ?_)
        refine ss_pure_g rfl (by simp [-getElem?_pos, List.getElem?_cons_zero, List.getElem?_cons_succ, h2, hw1, h3, hy]; exact Is.mk _) rfl (by simp; exact Is.mk _) (by kernel_rfl) (in_spec y i (hdet y (List.mem_of_getElem? hy))) ?_
        cases hb : inL y i
        · rw [hb] at hsn
          refine ss_all (by simp [-getElem?_pos, List.getElem?_cons_zero, List.getElem?_cons_succ, h2]; exact Is.mk _) ?_
          repeat' (first
            | (refine sw_seq ?_) | (refine sw_block ?_) | (refine sw_skip ?_) | (refine sw_ret ?_) | (refine sw_exit ?_)
            | (refine n_then ?_) | (refine r_then ?_) | (refine e_then ?_) | (refine n_block ?_) | (refine r_block ?_) | (refine e_block ?_) | (refine o_block rfl ?_)
            | (refine sw_run (by simp [-getElem?_pos, List.getElem?_cons_zero, List.getElem?_cons_succ, hw]; exact Is.mk _) ?_)
            | (refine sw_true (by simp [-getElem?_pos, List.getElem?_cons_zero, List.getElem?_cons_succ, hw]; exact Is.mk _) ?_) | (refine sw_false (by simp [-getElem?_pos, List.getElem?_cons_zero, List.getElem?_cons_succ, hw]; exact Is.mk _) ?_)
            | (refine sw_yes (by simp; exact Is.mk _) (by assumption) ?_)
            | (refine sw_no (by simp; exact Is.mk _) (by assumption) ?_)
            | (refine sw_if (by simp; exact Is.mk _) (fun _ => ?_) (fun _ => ?_)))
          exact ⟨(k + 1, out), ⟨by simp only; omega, by simp only; rw [hsn]; simp⟩, by simp only; omega, weak_cut_hp (by simp) (by simp) (by simp [hn, hn0])⟩
        · rw [hb] at hsn
          refine ss_all (by simp [-getElem?_pos, List.getElem?_cons_zero, List.getElem?_cons_succ, h2]; exact Is.mk _) ?_
          repeat' (first
            | (refine sw_seq ?_) | (refine sw_block ?_) | (refine sw_skip ?_) | (refine sw_ret ?_) | (refine sw_exit ?_)
            | (refine n_then ?_) | (refine r_then ?_) | (refine e_then ?_) | (refine n_block ?_) | (refine r_block ?_) | (refine e_block ?_) | (refine o_block rfl ?_)
            | (refine sw_run (by simp [-getElem?_pos, List.getElem?_cons_zero, List.getElem?_cons_succ, hw, hsm]; exact Is.mk _) ?_)
            | (refine sw_true (by simp [-getElem?_pos, List.getElem?_cons_zero, List.getElem?_cons_succ, hw, hsm]; exact Is.mk _) ?_) | (refine sw_false (by simp [-getElem?_pos, List.getElem?_cons_zero, List.getElem?_cons_succ, hw, hsm]; exact Is.mk _) ?_)
            | (refine sw_yes (by simp; exact Is.mk _) (by assumption) ?_)
            | (refine sw_no (by simp; exact Is.mk _) (by assumption) ?_)
            | (refine sw_if (by simp; exact Is.mk _) (fun _ => ?_) (fun _ => ?_)))
          exact ⟨(k + 1, out ++ [j]), ⟨by simp only; omega, by simp only; rw [hsn]; simp⟩, by simp only; omega, weak_cut_hp (by simp) (by simp [rints_app]) (by simp [hn, hn0])⟩
      · have ht : tells r.det i j = false := by simp [tells, h2]
        rw [ht] at hsn
        refine ss_all (by simp [-getElem?_pos, List.getElem?_cons_zero, List.getElem?_cons_succ, h2]; exact Is.mk _) ?_
        repeat' (first
          | (refine sw_seq ?_) | (refine sw_block ?_) | (refine sw_skip ?_) | (refine sw_ret ?_) | (refine sw_exit ?_)
          | (refine n_then ?_) | (refine r_then ?_) | (refine e_then ?_) | (refine n_block ?_) | (refine r_block ?_) | (refine e_block ?_) | (refine o_block rfl ?_)
          | (refine sw_run (by simp [-getElem?_pos, List.getElem?_cons_zero, List.getElem?_cons_succ, hw]; exact Is.mk _) ?_)
          | (refine sw_true (by simp [-getElem?_pos, List.getElem?_cons_zero, List.getElem?_cons_succ, hw]; exact Is.mk _) ?_) | (refine sw_false (by simp [-getElem?_pos, List.getElem?_cons_zero, List.getElem?_cons_succ, hw]; exact Is.mk _) ?_)
          | (refine sw_yes (by simp; exact Is.mk _) (by assumption) ?_)
          | (refine sw_no (by simp; exact Is.mk _) (by assumption) ?_)
          | (refine sw_if (by simp; exact Is.mk _) (fun _ => ?_) (fun _ => ?_)))
        exact ⟨(k + 1, out), ⟨by simp only; omega, by simp only; rw [hsn]; simp⟩, by simp only; omega, weak_cut_hp (by simp) (by simp) (by simp [hn, hn0])⟩
    · obtain rfl : k = (honL w.bad w.n).length := by omega
      rw [List.take_length] at hout
      repeat' (first
        | (refine sw_seq ?_) | (refine sw_block ?_) | (refine sw_skip ?_) | (refine sw_ret ?_) | (refine sw_exit ?_)
        | (refine n_then ?_) | (refine r_then ?_) | (refine e_then ?_) | (refine n_block ?_) | (refine r_block ?_) | (refine e_block ?_) | (refine o_block rfl ?_)
        | (refine sw_run (by simp [-getElem?_pos, List.getElem?_cons_zero, List.getElem?_cons_succ, hlt]; exact Is.mk _) ?_)
        | (refine sw_true (by simp [-getElem?_pos, List.getElem?_cons_zero, List.getElem?_cons_succ, hlt]; exact Is.mk _) ?_) | (refine sw_false (by simp [-getElem?_pos, List.getElem?_cons_zero, List.getElem?_cons_succ, hlt]; exact Is.mk _) ?_)
        | (refine sw_yes (by simp; exact Is.mk _) (by assumption) ?_)
        | (refine sw_no (by simp; exact Is.mk _) (by assumption) ?_)
        | (refine sw_if (by simp; exact Is.mk _) (fun _ => ?_) (fun _ => ?_)))
      exact end_own (es := ints out) (by simp; exact Is.mk _) (by simp; exact Is.mk _) rfl (by simp) (hn 2) (by simp [hn0, hn]) ⟨rfl, by rw [hout]; rfl⟩

/-! ### Detected -/

def detF (w : Scen) (r : Res) (i : Int) : Bool := disq r.dis i || decide (0 < (seenL w.bad w.n r.det i).length)
def detL (w : Scen) (r : Res) : List Int := filtUp (detF w r) w.n.toNat

theorem det_len (w : Scen) (r : Res) (h : w.n ≤ 13) : (detL w r).length ≤ 13 := by
  have := filt_len (detF w r) w.n.toNat
  unfold detL
  omega

set_option maxHeartbeats 2000000 in
theorem rdet_spec (w : Scen) (r : Res) (hbad : Small w.bad.length) (h0 : 0 ≤ w.n) (h13 : w.n ≤ 13) (hdet : ∀ x ∈ r.det, Small x.length) (hdl : Small r.det.length) :
    Pure Tryd.prog 18 [scenA w, resA r] (.p (.sl 1 (ints (detL w r)))) := by
  refine pure_of Tryd.func18 rfl Tryd.ntmps18 (by simp) fun F n hF hn hn0 => ?_
  repeat' (first
    | (refine sw_seq ?_) | (refine sw_block ?_) | (refine sw_skip ?_) | (refine sw_ret ?_) | (refine sw_exit ?_)
    | (refine n_then ?_) | (refine r_then ?_) | (refine e_then ?_) | (refine n_block ?_) | (refine r_block ?_) | (refine e_block ?_) | (refine o_block rfl ?_)
    | (refine sw_run (by simp [-getElem?_pos, List.getElem?_cons_zero, List.getElem?_cons_succ, ]; exact Is.mk _) ?_)
    | (refine sw_true (by simp [-getElem?_pos, List.getElem?_cons_zero, List.getElem?_cons_succ, ]; exact Is.mk _) ?_) | (refine sw_false (by simp [-getElem?_pos, List.getElem?_cons_zero, List.getElem?_cons_succ, ]; exact Is.mk _) ?_)
    | (refine sw_yes (by simp; exact Is.mk _) (by assumption) ?_)
    | (refine sw_no (by simp; exact Is.mk _) (by assumption) ?_)
    | (refine sw_if (by simp; exact Is.mk _) (fun _ => ?_) (fun _ => ?_)))
  refine sw_loopI (α := Nat × Int × List Int) (fun x => [(2, .ptr n 0 0 0), (3, .ptr (n + 1) 0 0 0), (5, .own (n + 2) x.2.2.length 0 x.2.2.length), (6, ai x.2.1)])
    (fun x => [(n + 2, .row x.2.2.length 3 1 (rints x.2.2)), (n + 1, .row 0 46 5 [resR r]), (n, .row 0 42 6 [scenR w])]) (fun _ => n + 3)
    (fun x => x.1 ≤ w.n.toNat ∧ x.2.1 = ((x.1 + 1 : Nat) : Int) ∧ x.2.2 = filtUp (detF w r) x.1) (fun x => w.n.toNat - x.1) (0, 1, []) ⟨Nat.zero_le _, rfl, rfl⟩ ?_ ?_ ?_
  · intro _
    refine weak_adopt_hp (id := n + 2) (sz := 1) (e := 3) (by simp [hn]) (by simp [ints, pcells]) (by simp [conv, convT, nilA]) ?_ (by simp)
    simp
  · intro x
    exact fresh_of hF (by omega) (by simp)
  · rintro ⟨m, i, out⟩ ⟨hm, hi, hout⟩
    simp only at hm hi hout ⊢
    have hlen : out.length ≤ m := by rw [hout]; exact filt_len _ _
    by_cases hlt : i ≤ w.n
    · have hw : IntKind.i64.wrap (i + 1) = i + 1 := i64_in (by omega)
      have hsm : Small (out.length + 1) := Small.mk (by omega)
      repeat' (first
        | (refine sw_seq ?_) | (refine sw_block ?_) | (refine sw_skip ?_) | (refine sw_ret ?_) | (refine sw_exit ?_)
        | (refine n_then ?_) | (refine r_then ?_) | (refine e_then ?_) | (refine n_block ?_) | (refine r_block ?_) | (refine e_block ?_) | (refine o_block rfl ?_)
        | (refine sw_run (by simp [-getElem?_pos, List.getElem?_cons_zero, List.getElem?_cons_succ, hlt]; exact Is.mk _) ?_)
        | (refine sw_true (by simp [-getElem?_pos, List.getElem?_cons_zero, List.getElem?_cons_succ, hlt]; exact Is.mk _) ?_) | (refine sw_false (by simp [-getElem?_pos, List.getElem?_cons_zero, List.getElem?_cons_succ, hlt]; exact Is.mk _) ?_)
        | (refine sw_yes (by simp; exact Is.mk _) (by assumption) ?_)
        | (refine sw_no (by simp; exact Is.mk _) (by assumption) ?_)
        | (refine sw_if (by simp; exact Is.mk _) (fun _ => ?_) (fun _ => ?_)))
      refine sw_ss ?_
      repeat (refine ss_op rfl (by simp [-getElem?_pos, List.getElem?_cons_zero, List.getElem?_cons_succ, ]; exact Is.mk _) ?_)
      refine ss_pure rfl rfl rfl (by simp [-getElem?_pos, List.getElem?_cons_zero, List.getElem?_cons_succ]; exact Is.mk _) (by kernel_rfl) (rout_spec r i (by omega)) ?_
      cases hb : disq r.dis i
      · repeat (refine ss_op rfl (by simp [-getElem?_pos, List.getElem?_cons_zero, List.getElem?_cons_succ, ]; exact Is.mk _) ?_)
        refine ss_pure_g rfl (by simp [-getElem?_pos, List.getElem?_cons_zero, List.getElem?_cons_succ, ]; exact Is.mk _) rfl (by simp; exact Is.mk _) (by kernel_rfl) (rseen_spec w r i hbad h0 h13 hdet hdl) ?_
        by_cases hs : 0 < (seenL w.bad w.n r.det i).length
        · have hf : detF w r i = true := by simp only [detF, hb, hs]; rfl
          refine ss_all (by simp [-getElem?_pos, List.getElem?_cons_zero, List.getElem?_cons_succ, hs]; exact Is.mk _) ?_
          repeat' (first
            | (refine sw_seq ?_) | (refine sw_block ?_) | (refine sw_skip ?_) | (refine sw_ret ?_) | (refine sw_exit ?_)
            | (refine n_then ?_) | (refine r_then ?_) | (refine e_then ?_) | (refine n_block ?_) | (refine r_block ?_) | (refine e_block ?_) | (refine o_block rfl ?_)
            | (refine sw_run (by simp [-getElem?_pos, List.getElem?_cons_zero, List.getElem?_cons_succ, hw, hsm]; exact Is.mk _) ?_)
            | (refine sw_true (by simp [-getElem?_pos, List.getElem?_cons_zero, List.getElem?_cons_succ, hw, hsm]; exact Is.mk _) ?_) | (refine sw_false (by simp [-getElem?_pos, List.getElem?_cons_zero, List.getElem?_cons_succ, hw, hsm]; exact Is.mk _) ?_)
            | (refine sw_yes (by simp; exact Is.mk _) (by assumption) ?_)
            | (refine sw_no (by simp; exact Is.mk _) (by assumption) ?_)
            | (refine sw_if (by simp; exact Is.mk _) (fun _ => ?_) (fun _ => ?_)))
          exact ⟨(m + 1, i + 1, out ++ [i]), ⟨by simp only; omega, by simp only; omega, filt_yes hi hf hout⟩, by simp only; omega, weak_cut_hp (by simp) (by simp [rints_app]) (by simp [hn, hn0])⟩
        · have hf : detF w r i = false := by simp only [detF, hb, hs]; rfl
          refine ss_all (by simp [-getElem?_pos, List.getElem?_cons_zero, List.getElem?_cons_succ, hs]; exact Is.mk _) ?_
          repeat' (first
            | (refine sw_seq ?_) | (refine sw_block ?_) | (refine sw_skip ?_) | (refine sw_ret ?_) | (refine sw_exit ?_)
            | (refine n_then ?_) | (refine r_then ?_) | (refine e_then ?_) | (refine n_block ?_) | (refine r_block ?_) | (refine e_block ?_) | (refine o_block rfl ?_)
            | (refine sw_run (by simp [-getElem?_pos, List.getElem?_cons_zero, List.getElem?_cons_succ, hw, hsm]; exact Is.mk _) ?_)
            | (refine sw_true (by simp [-getElem?_pos, List.getElem?_cons_zero, List.getElem?_cons_succ, hw, hsm]; exact Is.mk _) ?_) | (refine sw_false (by simp [-getElem?_pos, List.getElem?_cons_zero, List.getElem?_cons_succ, hw, hsm]; exact Is.mk _) ?_)
            | (refine sw_yes (by simp; exact Is.mk _) (by assumption) ?_)
            | (refine sw_no (by simp; exact Is.mk _) (by assumption) ?_)
            | (refine sw_if (by simp; exact Is.mk _) (fun _ => ?_) (fun _ => ?_)))
          exact ⟨(m + 1, i + 1, out), ⟨by simp only; omega, by simp only; omega, filt_no hi hf hout⟩, by simp only; omega, weak_cut_hp (by simp) (by simp) (by simp [hn, hn0])⟩
      · have hf : detF w r i = true := by simp only [detF, hb, Bool.true_or]
        refine ss_all (by simp [-getElem?_pos, List.getElem?_cons_zero, List.getElem?_cons_succ, ]; exact Is.mk _) ?_
        repeat' (first
          | (refine sw_seq ?_) | (refine sw_block ?_) | (refine sw_skip ?_) | (refine sw_ret ?_) | (refine sw_exit ?_)
          | (refine n_then ?_) | (refine r_then ?_) | (refine e_then ?_) | (refine n_block ?_) | (refine r_block ?_) | (refine e_block ?_) | (refine o_block rfl ?_)
          | (refine sw_run (by simp [-getElem?_pos, List.getElem?_cons_zero, List.getElem?_cons_succ, hw, hsm]; exact Is.mk _) ?_)
          | (refine sw_true (by simp [-getElem?_pos, List.getElem?_cons_zero, List.getElem?_cons_succ, hw, hsm]; exact Is.mk _) ?_) | (refine sw_false (by simp [-getElem?_pos, List.getElem?_cons_zero, List.getElem?_cons_succ, hw, hsm]; exact Is.mk _) ?_)
          | (refine sw_yes (by simp; exact Is.mk _) (by assumption) ?_)
          | (refine sw_no (by simp; exact Is.mk _) (by assumption) ?_)
          | (refine sw_if (by simp; exact Is.mk _) (fun _ => ?_) (fun _ => ?_)))
        exact ⟨(m + 1, i + 1, out ++ [i]), ⟨by simp only; omega, by simp only; omega, filt_yes hi hf hout⟩, by simp only; omega, weak_cut_hp (by simp) (by simp [rints_app]) (by simp [hn, hn0])⟩
    · obtain rfl : m = w.n.toNat := by omega
      repeat' (first
        | (refine sw_seq ?_) | (refine sw_block ?_) | (refine sw_skip ?_) | (refine sw_ret ?_) | (refine sw_exit ?_)
        | (refine n_then ?_) | (refine r_then ?_) | (refine e_then ?_) | (refine n_block ?_) | (refine r_block ?_) | (refine e_block ?_) | (refine o_block rfl ?_)
        | (refine sw_run (by simp [-getElem?_pos, List.getElem?_cons_zero, List.getElem?_cons_succ, hlt]; exact Is.mk _) ?_)
        | (refine sw_true (by simp [-getElem?_pos, List.getElem?_cons_zero, List.getElem?_cons_succ, hlt]; exact Is.mk _) ?_) | (refine sw_false (by simp [-getElem?_pos, List.getElem?_cons_zero, List.getElem?_cons_succ, hlt]; exact Is.mk _) ?_)
        | (refine sw_yes (by simp; exact Is.mk _) (by assumption) ?_)
        | (refine sw_no (by simp; exact Is.mk _) (by assumption) ?_)
        | (refine sw_if (by simp; exact Is.mk _) (fun _ => ?_) (fun _ => ?_)))
      exact end_own (es := ints out) (by simp; exact Is.mk _) (by simp; exact Is.mk _) rfl (by simp) (hn 2) (by simp [hn0, hn]) ⟨rfl, by rw [hout]; rfl⟩

end Go.AM
