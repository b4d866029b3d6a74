/- The reference's Format. -/
import Derived.Test.YtmljoaiedihoiaaDoorB11
import Derived.Test.YtmljoaiedihoiaaDoorAm29
namespace Go.AM
set_option linter.unusedVariables false
set_option linter.unusedSimpArgs false
open Go Go.RowKit Go.Proofs

abbrev sOut : ByteArray := ⟨#[32, 111, 117, 116]⟩
abbrev sSeen : ByteArray := ⟨#[32, 115, 101, 101, 110, 32, 98, 121]⟩
abbrev sSp : ByteArray := ⟨#[32]⟩
abbrev sNl : ByteArray := ⟨#[10]⟩
abbrev sNobody : ByteArray := ⟨#[110, 111, 98, 111, 100, 121, 10]⟩
def decI (x : Int) : ByteArray := dec x.toNat
theorem decI_size (x : Int) : (decI x).size ≤ 2 := by
  unfold decI dec
  split
  · show 1 ≤ 2; omega
  · show 2 ≤ 2; omega
theorem rdecI (x : Int) (h0 : 0 ≤ x) (h13 : x ≤ 13) : Pure Tryd.prog 46 [au x] (astr (decI x)) := by
  obtain ⟨k, rfl⟩ : ∃ k : Nat, x = k := ⟨x.toNat, by omega⟩
  exact rdecimal_spec k (by omega)
theorem cdecI (x : Int) (h0 : 0 ≤ x) (h13 : x ≤ 13) : Pure Tryd.prog 43 [au x] (astr (decI x)) := by
  obtain ⟨k, rfl⟩ : ∃ k : Nat, x = k := ⟨x.toNat, by omega⟩
  exact decimal_spec k (by omega)

def bySep (s : ByteArray) : List Int → ByteArray
  | [] => s
  | j :: r => bySep (s ++ sSp ++ decI j) r
def lineA (w : Scen) (r : Res) (s : ByteArray) (i : Int) : ByteArray := if disq r.dis i then s ++ decI i ++ sOut else s ++ decI i
def lineB (w : Scen) (r : Res) (s : ByteArray) (i : Int) : ByteArray := if 0 < (seenL w.bad w.n r.det i).length then lineA w r s i ++ sSeen else lineA w r s i
def lineC (w : Scen) (r : Res) (s : ByteArray) (i : Int) : ByteArray := bySep (lineB w r s i) (seenL w.bad w.n r.det i) ++ sNl
def fmtL (w : Scen) (r : Res) (s : ByteArray) : List Int → ByteArray
  | [] => s
  | i :: l => fmtL w r (lineC w r s i) l
def fmtS (w : Scen) (r : Res) : ByteArray := if (detL w r).length = 0 then sNobody else fmtL w r ⟨#[]⟩ (detL w r)

theorem sz_out (s : ByteArray) : (s ++ sOut).size = s.size + 4 := ByteArray.size_append
theorem sz_seen (s : ByteArray) : (s ++ sSeen).size = s.size + 8 := ByteArray.size_append
theorem sz_sp (s : ByteArray) : (s ++ sSp).size = s.size + 1 := ByteArray.size_append
theorem sz_nl (s : ByteArray) : (s ++ sNl).size = s.size + 1 := ByteArray.size_append
theorem sz_dec (s : ByteArray) (x : Int) : (s ++ decI x).size ≤ s.size + 2 := by
  rw [ByteArray.size_append]; have := decI_size x; omega
theorem sz_lineA (w : Scen) (r : Res) (s : ByteArray) (i : Int) : (lineA w r s i).size ≤ s.size + 6 := by
  unfold lineA
  have := sz_dec s i
  split
  · rw [sz_out]; omega
  · omega
theorem sz_lineB (w : Scen) (r : Res) (s : ByteArray) (i : Int) : (lineB w r s i).size ≤ s.size + 14 := by
  unfold lineB
  have := sz_lineA w r s i
  split
  · rw [sz_seen]; omega
  · omega
theorem sz_bySep : ∀ {l : List Int} {s : ByteArray}, (bySep s l).size ≤ s.size + 3 * l.length
  | [], s => by simp [bySep]
  | j :: r, s => by
    rw [bySep]
    have h1 := sz_bySep (l := r) (s := s ++ sSp ++ decI j)
    have h2 := sz_dec (s ++ sSp) j
    rw [sz_sp] at h2
    simp only [List.length_cons]
    omega
theorem seen_len (bad : List Int) {q : Int} (det : List (List Int)) (i : Int) (h : q ≤ 13) : (seenL bad q det i).length ≤ 13 :=
  Nat.le_trans (List.length_filter_le ..) (hon_len bad h)
theorem sz_lineC (w : Scen) (r : Res) (s : ByteArray) (i : Int) (h : w.n ≤ 13) : (lineC w r s i).size ≤ s.size + 60 := by
  unfold lineC
  have h1 := sz_lineB w r s i
  have h2 := sz_bySep (l := seenL w.bad w.n r.det i) (s := lineB w r s i)
  have h3 := seen_len w.bad r.det i h
  rw [sz_nl]
  omega

set_option maxHeartbeats 4000000 in
theorem rformat_spec (w : Scen) (r : Res) (hbad : Small w.bad.length) (h0 : 0 ≤ w.n) (h13 : w.n ≤ 13) (hdet : ∀ x ∈ r.det, Small x.length) (hdl : Small r.det.length) :
    Pure Tryd.prog 22 [scenA w, resA r] (astr (fmtS w r)) := by
  refine pure_of Tryd.func22 rfl Tryd.ntmps22 (by simp) fun F n hF hn hn0 => ?_
  have hdl2 := det_len w r h13
  have hds : Small (detL w r).length := Small.mk (by omega)
  repeat' (first
    | (refine sw_seq ?_) | (refine sw_block ?_) | (refine sw_skip ?_) | (refine sw_ret ?_) | (refine sw_exit ?_)
    | (refine n_then ?_) | (refine r_then ?_) | (refine e_then ?_) | (refine n_block ?_) | (refine r_block ?_) | (refine e_block ?_) | (refine o_block rfl ?_)
    | (refine sw_run (by simp [-getElem?_pos, -List.reduceReplicate, List.getElem?_cons_zero, List.getElem?_cons_succ, ]; exact Is.mk _) ?_)
    | (refine sw_true (by simp [-getElem?_pos, -List.reduceReplicate, List.getElem?_cons_zero, List.getElem?_cons_succ, ]; exact Is.mk _) ?_) | (refine sw_false (by simp [-getElem?_pos, -List.reduceReplicate, List.getElem?_cons_zero, List.getElem?_cons_succ, ]; exact Is.mk _) ?_)
    | (refine sw_yes (by simp; exact Is.mk _) (by assumption) ?_)
    | (refine sw_no (by simp; exact Is.mk _) (by assumption) ?_)
    | (refine sw_if (by simp; exact Is.mk _) (fun _ => ?_) (fun _ => ?_)))
  refine sw_ss ?_
  repeat (refine ss_op rfl (by simp [-getElem?_pos, -List.reduceReplicate, List.getElem?_cons_zero, List.getElem?_cons_succ, ]; exact Is.mk _) ?_)
  refine ss_pure rfl rfl rfl (by simp [-getElem?_pos, -List.reduceReplicate, List.getElem?_cons_zero, List.getElem?_cons_succ]; exact Is.mk _) (by kernel_rfl) (rdet_spec w r hbad h0 h13 hdet hdl) ?_
  refine ss_all (by simp [-getElem?_pos, -List.reduceReplicate, List.getElem?_cons_zero, List.getElem?_cons_succ, ]; exact Is.mk _) ?_
  by_cases hz : (detL w r).length = 0
  · have hz' : ((detL w r).length : Int) = 0 := by omega
    repeat' (first
      | (refine sw_seq ?_) | (refine sw_block ?_) | (refine sw_skip ?_) | (refine sw_ret ?_) | (refine sw_exit ?_)
      | (refine n_then ?_) | (refine r_then ?_) | (refine e_then ?_) | (refine n_block ?_) | (refine r_block ?_) | (refine e_block ?_) | (refine o_block rfl ?_)
      | (refine sw_run (by simp [-getElem?_pos, -List.reduceReplicate, List.getElem?_cons_zero, List.getElem?_cons_succ, hz, hz']; exact Is.mk _) ?_)
      | (refine sw_true (by simp [-getElem?_pos, -List.reduceReplicate, List.getElem?_cons_zero, List.getElem?_cons_succ, hz, hz']; exact Is.mk _) ?_) | (refine sw_false (by simp [-getElem?_pos, -List.reduceReplicate, List.getElem?_cons_zero, List.getElem?_cons_succ, hz, hz']; exact Is.mk _) ?_)
      | (refine sw_yes (by simp; exact Is.mk _) (by assumption) ?_)
      | (refine sw_no (by simp; exact Is.mk _) (by assumption) ?_)
      | (refine sw_if (by simp; exact Is.mk _) (fun _ => ?_) (fun _ => ?_)))
    exact end_val (by simp; exact Is.mk _) (by simp [hn0, hn]) ⟨rfl, by rw [fmtS, if_pos hz]⟩
  · have hz' : ¬ ((detL w r).length : Int) = 0 := by omega
    repeat' (first
      | (refine sw_seq ?_) | (refine sw_block ?_) | (refine sw_skip ?_) | (refine sw_ret ?_) | (refine sw_exit ?_)
      | (refine n_then ?_) | (refine r_then ?_) | (refine e_then ?_) | (refine n_block ?_) | (refine r_block ?_) | (refine e_block ?_) | (refine o_block rfl ?_)
      | (refine sw_run (by simp [-getElem?_pos, -List.reduceReplicate, List.getElem?_cons_zero, List.getElem?_cons_succ, hz, hz']; exact Is.mk _) ?_)
      | (refine sw_true (by simp [-getElem?_pos, -List.reduceReplicate, List.getElem?_cons_zero, List.getElem?_cons_succ, hz, hz']; exact Is.mk _) ?_) | (refine sw_false (by simp [-getElem?_pos, -List.reduceReplicate, List.getElem?_cons_zero, List.getElem?_cons_succ, hz, hz']; exact Is.mk _) ?_)
      | (refine sw_yes (by simp; exact Is.mk _) (by assumption) ?_)
      | (refine sw_no (by simp; exact Is.mk _) (by assumption) ?_)
      | (refine sw_if (by simp; exact Is.mk _) (fun _ => ?_) (fun _ => ?_)))
    refine sw_loopI (α := Nat × ByteArray) (fun x => [(2, .ptr n 0 0 0), (3, .ptr (n + 1) 0 0 0), (5, .p (.sl 1 (ints (detL w r)))), (6, astr x.2), (7, ai x.1)])
      (fun x => [(n + 1, .row 0 46 5 [resR r]), (n, .row 0 42 6 [scenR w])]) (fun _ => n + 2)
      (fun x => x.1 ≤ (detL w r).length ∧ x.2.size ≤ 60 * x.1 ∧ fmtL w r x.2 ((detL w r).drop x.1) = fmtL w r ⟨#[]⟩ (detL w r)) (fun x => (detL w r).length - x.1) (0, ⟨#[]⟩) ⟨Nat.zero_le _, Nat.le_refl _, rfl⟩ ?_ ?_ ?_
    · intro _
      exact weak_cut_hp (by simp) (by simp) (by simp)
    · intro x
      exact fresh_of hF (by omega) (by simp)
    · rintro ⟨k, s⟩ ⟨hk, hs, hR⟩
      simp only at hk hs hR ⊢
      by_cases hlt : k < (detL w r).length
      · obtain ⟨i, hi⟩ := get_lt hlt
        have hw := wrap_succ hlt hds
        have him := filt_mem.1 (List.mem_of_getElem? hi)
        have i1 : 1 ≤ i := him.1
        have i2 : i ≤ 13 := by have := him.2.1; omega
        have hu : IntKind.u64.wrap i = i := u64_in (by omega)
        have z1 : s.size + (decI i).size < 4294967296 := by have := decI_size i; omega
        rw [drop_cons hi] at hR
        simp only [fmtL] at hR
        repeat' (first
          | (refine sw_seq ?_) | (refine sw_block ?_) | (refine sw_skip ?_)
          | (refine n_then ?_) | (refine r_then ?_) | (refine e_then ?_) | (refine n_block ?_) | (refine r_block ?_) | (refine e_block ?_) | (refine o_block rfl ?_)
          | (refine sw_run (by simp [-getElem?_pos, -List.reduceReplicate, List.getElem?_cons_zero, List.getElem?_cons_succ, hlt, hi]; exact Is.mk _) ?_) | fail)
        first
          | (refine sw_true (by simp [-getElem?_pos, -List.reduceReplicate, List.getElem?_cons_zero, List.getElem?_cons_succ, hlt, hi]; exact Is.mk _) ?_) | (refine sw_false (by simp [-getElem?_pos, -List.reduceReplicate, List.getElem?_cons_zero, List.getElem?_cons_succ, hlt, hi]; exact Is.mk _) ?_)
          | (refine sw_yes (by simp; exact Is.mk _) (by assumption) ?_) | (refine sw_no (by simp; exact Is.mk _) (by assumption) ?_)
        repeat' (first
          | (refine sw_seq ?_) | (refine sw_block ?_) | (refine sw_skip ?_)
          | (refine n_then ?_) | (refine r_then ?_) | (refine e_then ?_) | (refine n_block ?_) | (refine r_block ?_) | (refine e_block ?_) | (refine o_block rfl ?_)
          | (refine sw_run (by simp [-getElem?_pos, -List.reduceReplicate, List.getElem?_cons_zero, List.getElem?_cons_succ, hlt, hi]; exact Is.mk _) ?_) | fail)
        refine sw_ss ?_
        repeat (refine ss_op rfl (by simp [-getElem?_pos, -List.reduceReplicate, List.getElem?_cons_zero, List.getElem?_cons_succ, hi, hu]; exact Is.mk _) ?_)
        refine ss_pure rfl rfl rfl (by simp [-getElem?_pos, -List.reduceReplicate, List.getElem?_cons_zero, List.getElem?_cons_succ]; exact Is.mk _) (by kernel_rfl) (rdecI i (by omega) i2) ?_
        refine ss_all (by simp [-getElem?_pos, -List.reduceReplicate, List.getElem?_cons_zero, List.getElem?_cons_succ, z1]; exact Is.mk _) ?_
        repeat' (first
          | (refine sw_seq ?_) | (refine sw_block ?_) | (refine sw_skip ?_)
          | (refine n_then ?_) | (refine r_then ?_) | (refine e_then ?_) | (refine n_block ?_) | (refine r_block ?_) | (refine e_block ?_) | (refine o_block rfl ?_)
          | (refine sw_run (by simp [-getElem?_pos, -List.reduceReplicate, List.getElem?_cons_zero, List.getElem?_cons_succ, hi]; exact Is.mk _) ?_) | fail)
        refine sw_draw (us := []) mixed (by kernel_rfl) (by kernel_rfl) ?_
        repeat (refine ds_op rfl (by simp [-getElem?_pos, -List.reduceReplicate, List.getElem?_cons_zero, List.getElem?_cons_succ, hi]; exact Is.mk _) ?_)
        refine ds_pure_g rfl (by simp [-getElem?_pos, -List.reduceReplicate, List.getElem?_cons_zero, List.getElem?_cons_succ, hi]; exact Is.mk _) rfl (by simp [-getElem?_pos, -List.reduceReplicate, List.getElem?_cons_zero, List.getElem?_cons_succ]; exact Is.mk _) (by kernel_rfl) (rout_spec r i (by omega)) ?_
        refine ds_all (by simp [-getElem?_pos, -List.reduceReplicate, List.getElem?_cons_zero, List.getElem?_cons_succ, hi]; exact Is.mk _) (disAll_quiet (by simp)) ?_
        have z2 := sz_dec s i
        refine sw_meet (α := ByteArray) (fun s' => [(2, .ptr n 0 0 0), (3, .ptr (n + 1) 0 0 0), (5, .p (.sl 1 (ints (detL w r)))), (6, astr s'), (7, ai k)]) (fun _ => [(n + 1, .row 0 46 5 [resR r]), (n, .row 0 42 6 [scenR w])]) (fun _ => n + 2)
          (fun s' => s' = lineA w r s i) (fun x => fresh_of hF (by omega) (by simp)) ?_ ?_
        · cases hb : disq r.dis i
          · repeat' (first
              | (refine sw_seq ?_) | (refine sw_block ?_) | (refine sw_skip ?_) | (refine sw_ret ?_) | (refine sw_exit ?_)
              | (refine n_then ?_) | (refine r_then ?_) | (refine e_then ?_) | (refine n_block ?_) | (refine r_block ?_) | (refine e_block ?_) | (refine o_block rfl ?_)
              | (refine sw_run (by simp [-getElem?_pos, -List.reduceReplicate, List.getElem?_cons_zero, List.getElem?_cons_succ, ]; exact Is.mk _) ?_)
              | (refine sw_true (by simp [-getElem?_pos, -List.reduceReplicate, List.getElem?_cons_zero, List.getElem?_cons_succ, ]; exact Is.mk _) ?_) | (refine sw_false (by simp [-getElem?_pos, -List.reduceReplicate, List.getElem?_cons_zero, List.getElem?_cons_succ, ]; exact Is.mk _) ?_)
              | (refine sw_yes (by simp; exact Is.mk _) (by assumption) ?_)
              | (refine sw_no (by simp; exact Is.mk _) (by assumption) ?_)
              | (refine sw_if (by simp; exact Is.mk _) (fun _ => ?_) (fun _ => ?_)))
            exact ⟨s ++ decI i, by rw [lineA, hb]; rfl, weak_cut_hp (by simp) (by simp) (by simp [hn, hn0])⟩
          · have z3 : s.size + (decI i).size + ByteArray.size sOut < 4294967296 := by
              have := decI_size i
              show s.size + (decI i).size + 4 < 4294967296
              omega
            repeat' (first
              | (refine sw_seq ?_) | (refine sw_block ?_) | (refine sw_skip ?_) | (refine sw_ret ?_) | (refine sw_exit ?_)
              | (refine n_then ?_) | (refine r_then ?_) | (refine e_then ?_) | (refine n_block ?_) | (refine r_block ?_) | (refine e_block ?_) | (refine o_block rfl ?_)
              | (refine sw_run (by simp [-getElem?_pos, -List.reduceReplicate, List.getElem?_cons_zero, List.getElem?_cons_succ, z3]; exact Is.mk _) ?_)
              | (refine sw_true (by simp [-getElem?_pos, -List.reduceReplicate, List.getElem?_cons_zero, List.getElem?_cons_succ, z3]; exact Is.mk _) ?_) | (refine sw_false (by simp [-getElem?_pos, -List.reduceReplicate, List.getElem?_cons_zero, List.getElem?_cons_succ, z3]; exact Is.mk _) ?_)
              | (refine sw_yes (by simp; exact Is.mk _) (by assumption) ?_)
              | (refine sw_no (by simp; exact Is.mk _) (by assumption) ?_)
              | (refine sw_if (by simp; exact Is.mk _) (fun _ => ?_) (fun _ => ?_)))
            exact ⟨s ++ decI i ++ sOut, by rw [lineA, hb]; rfl, weak_cut_hp (by simp) (by simp) (by simp [hn, hn0])⟩
        · rintro s' rfl
          have hsl := seen_len w.bad r.det i h13
          have hss : Small (seenL w.bad w.n r.det i).length := Small.mk (by omega)
          have zA := sz_lineA w r s i
          have zB := sz_lineB w r s i
          have zC := sz_lineC w r s i h13
          repeat' (first
            | (refine sw_seq ?_) | (refine sw_block ?_) | (refine sw_skip ?_)
            | (refine n_then ?_) | (refine r_then ?_) | (refine e_then ?_) | (refine n_block ?_) | (refine r_block ?_) | (refine e_block ?_) | (refine o_block rfl ?_)
            | (refine sw_run (by simp [-getElem?_pos, -List.reduceReplicate, List.getElem?_cons_zero, List.getElem?_cons_succ, hlt, hi]; exact Is.mk _) ?_) | fail)
          refine sw_draw (us := []) mixed (by kernel_rfl) (by kernel_rfl) ?_
          repeat (refine ds_op rfl (by simp [-getElem?_pos, -List.reduceReplicate, List.getElem?_cons_zero, List.getElem?_cons_succ, hi]; exact Is.mk _) ?_)
          refine ds_pure_g rfl (by simp [-getElem?_pos, -List.reduceReplicate, List.getElem?_cons_zero, List.getElem?_cons_succ, hi]; exact Is.mk _) rfl (by simp [-getElem?_pos, -List.reduceReplicate, List.getElem?_cons_zero, List.getElem?_cons_succ]; exact Is.mk _) (by kernel_rfl) (rseen_spec w r i hbad h0 h13 hdet hdl) ?_
          refine ds_all (by simp [-getElem?_pos, -List.reduceReplicate, List.getElem?_cons_zero, List.getElem?_cons_succ, hi]; exact Is.mk _) (disAll_quiet (by simp)) ?_
          repeat' (first
            | (refine sw_seq ?_) | (refine sw_block ?_) | (refine sw_skip ?_)
            | (refine n_then ?_) | (refine r_then ?_) | (refine e_then ?_) | (refine n_block ?_) | (refine r_block ?_) | (refine e_block ?_) | (refine o_block rfl ?_)
            | (refine sw_run (by simp [-getElem?_pos, -List.reduceReplicate, List.getElem?_cons_zero, List.getElem?_cons_succ, hi]; exact Is.mk _) ?_) | fail)
          refine sw_meet (α := ByteArray) (fun s' => [(2, .ptr n 0 0 0), (3, .ptr (n + 1) 0 0 0), (5, .p (.sl 1 (ints (detL w r)))), (6, astr s'), (7, ai k), (8, .p (.sl 1 (ints (seenL w.bad w.n r.det i))))]) (fun _ => [(n + 1, .row 0 46 5 [resR r]), (n, .row 0 42 6 [scenR w])]) (fun _ => n + 2)
            (fun s' => s' = lineB w r s i) (fun x => fresh_of hF (by omega) (by simp)) ?_ ?_
          · by_cases hb : 0 < (seenL w.bad w.n r.det i).length
            · have z3 : (lineA w r s i).size + ByteArray.size sSeen < 4294967296 := by
                show (lineA w r s i).size + 8 < 4294967296
                omega
              repeat' (first
                | (refine sw_seq ?_) | (refine sw_block ?_) | (refine sw_skip ?_) | (refine sw_ret ?_) | (refine sw_exit ?_)
                | (refine n_then ?_) | (refine r_then ?_) | (refine e_then ?_) | (refine n_block ?_) | (refine r_block ?_) | (refine e_block ?_) | (refine o_block rfl ?_)
                | (refine sw_run (by simp [-getElem?_pos, -List.reduceReplicate, List.getElem?_cons_zero, List.getElem?_cons_succ, hb, z3]; exact Is.mk _) ?_)
                | (refine sw_true (by simp [-getElem?_pos, -List.reduceReplicate, List.getElem?_cons_zero, List.getElem?_cons_succ, hb, z3]; exact Is.mk _) ?_) | (refine sw_false (by simp [-getElem?_pos, -List.reduceReplicate, List.getElem?_cons_zero, List.getElem?_cons_succ, hb, z3]; exact Is.mk _) ?_)
                | (refine sw_yes (by simp; exact Is.mk _) (by assumption) ?_)
                | (refine sw_no (by simp; exact Is.mk _) (by assumption) ?_)
                | (refine sw_if (by simp; exact Is.mk _) (fun _ => ?_) (fun _ => ?_)))
              exact ⟨lineA w r s i ++ sSeen, by rw [lineB, if_pos hb], weak_cut_hp (by simp) (by simp) (by simp [hn, hn0])⟩
            · repeat' (first
                | (refine sw_seq ?_) | (refine sw_block ?_) | (refine sw_skip ?_) | (refine sw_ret ?_) | (refine sw_exit ?_)
                | (refine n_then ?_) | (refine r_then ?_) | (refine e_then ?_) | (refine n_block ?_) | (refine r_block ?_) | (refine e_block ?_) | (refine o_block rfl ?_)
                | (refine sw_run (by simp [-getElem?_pos, -List.reduceReplicate, List.getElem?_cons_zero, List.getElem?_cons_succ, hb]; exact Is.mk _) ?_)
                | (refine sw_true (by simp [-getElem?_pos, -List.reduceReplicate, List.getElem?_cons_zero, List.getElem?_cons_succ, hb]; exact Is.mk _) ?_) | (refine sw_false (by simp [-getElem?_pos, -List.reduceReplicate, List.getElem?_cons_zero, List.getElem?_cons_succ, hb]; exact Is.mk _) ?_)
                | (refine sw_yes (by simp; exact Is.mk _) (by assumption) ?_)
                | (refine sw_no (by simp; exact Is.mk _) (by assumption) ?_)
                | (refine sw_if (by simp; exact Is.mk _) (fun _ => ?_) (fun _ => ?_)))
              exact ⟨lineA w r s i, by rw [lineB, if_neg hb], weak_cut_hp (by simp) (by simp) (by simp [hn, hn0])⟩
          · rintro s' rfl
            repeat' (first
              | (refine sw_seq ?_) | (refine sw_block ?_) | (refine sw_skip ?_)
              | (refine n_then ?_) | (refine r_then ?_) | (refine e_then ?_) | (refine n_block ?_) | (refine r_block ?_) | (refine e_block ?_) | (refine o_block rfl ?_)
              | (refine sw_run (by simp [-getElem?_pos, -List.reduceReplicate, List.getElem?_cons_zero, List.getElem?_cons_succ, ]; exact Is.mk _) ?_) | fail)
            refine sw_loopI (α := Nat × ByteArray) (fun x => [(2, .ptr n 0 0 0), (3, .ptr (n + 1) 0 0 0), (5, .p (.sl 1 (ints (detL w r)))), (6, astr x.2), (7, ai k), (8, .p (.sl 1 (ints (seenL w.bad w.n r.det i)))), (9, ai x.1)])
              (fun x => [(n + 1, .row 0 46 5 [resR r]), (n, .row 0 42 6 [scenR w])]) (fun _ => n + 2)
              (fun x => x.1 ≤ (seenL w.bad w.n r.det i).length ∧ x.2.size ≤ (lineB w r s i).size + 3 * x.1 ∧ bySep x.2 ((seenL w.bad w.n r.det i).drop x.1) = bySep (lineB w r s i) (seenL w.bad w.n r.det i)) (fun x => (seenL w.bad w.n r.det i).length - x.1) (0, lineB w r s i) ⟨Nat.zero_le _, Nat.le_refl _, rfl⟩ ?_ ?_ ?_
            · intro _
              exact weak_cut_hp (by simp) (by simp) (by simp)
            · intro x
              exact fresh_of hF (by omega) (by simp)
            · rintro ⟨j, u⟩ ⟨hj, hu2, hR2⟩
              simp only at hj hu2 hR2 ⊢
              by_cases hjl : j < (seenL w.bad w.n r.det i).length
              · obtain ⟨x, hx⟩ := get_lt hjl
                have hwj := wrap_succ hjl hss
                have hxm := filt_mem.1 (List.mem_filter.1 (List.mem_of_getElem? hx)).1
                have x1 : 0 ≤ x := by have := hxm.1; omega
                have x2 : x ≤ 13 := by have := hxm.2.1; omega
                have hux : IntKind.u64.wrap x = x := u64_in (by omega)
                have zd := decI_size x
                have z4 : u.size + ByteArray.size sSp < 4294967296 := by
                  show u.size + 1 < 4294967296
                  omega
                have z5 : u.size + ByteArray.size sSp + (decI x).size < 4294967296 := by
                  show u.size + 1 + (decI x).size < 4294967296
                  omega
                have z6 := sz_dec (u ++ sSp) x
                rw [sz_sp] at z6
                rw [drop_cons hx] at hR2
                simp only [bySep] at hR2
                repeat' (first
                  | (refine sw_seq ?_) | (refine sw_block ?_) | (refine sw_skip ?_)
                  | (refine n_then ?_) | (refine r_then ?_) | (refine e_then ?_) | (refine n_block ?_) | (refine r_block ?_) | (refine e_block ?_) | (refine o_block rfl ?_)
                  | (refine sw_run (by simp [-getElem?_pos, -List.reduceReplicate, List.getElem?_cons_zero, List.getElem?_cons_succ, hjl, hx]; exact Is.mk _) ?_) | fail)
                first
                  | (refine sw_true (by simp [-getElem?_pos, -List.reduceReplicate, List.getElem?_cons_zero, List.getElem?_cons_succ, hjl, hx]; exact Is.mk _) ?_) | (refine sw_false (by simp [-getElem?_pos, -List.reduceReplicate, List.getElem?_cons_zero, List.getElem?_cons_succ, hjl, hx]; exact Is.mk _) ?_)
                  | (refine sw_yes (by simp; exact Is.mk _) (by assumption) ?_) | (refine sw_no (by simp; exact Is.mk _) (by assumption) ?_)
                repeat' (first
                  | (refine sw_seq ?_) | (refine sw_block ?_) | (refine sw_skip ?_)
                  | (refine n_then ?_) | (refine r_then ?_) | (refine e_then ?_) | (refine n_block ?_) | (refine r_block ?_) | (refine e_block ?_) | (refine o_block rfl ?_)
                  | (refine sw_run (by simp [-getElem?_pos, -List.reduceReplicate, List.getElem?_cons_zero, List.getElem?_cons_succ, hjl, hx]; exact Is.mk _) ?_) | fail)
                refine sw_ss ?_
                repeat (refine ss_op rfl (by simp [-getElem?_pos, -List.reduceReplicate, List.getElem?_cons_zero, List.getElem?_cons_succ, hx, hux, z4]; exact Is.mk _) ?_)
                refine ss_pure rfl rfl rfl (by simp [-getElem?_pos, -List.reduceReplicate, List.getElem?_cons_zero, List.getElem?_cons_succ]; exact Is.mk _) (by kernel_rfl) (rdecI x x1 x2) ?_
                refine ss_all (by simp [-getElem?_pos, -List.reduceReplicate, List.getElem?_cons_zero, List.getElem?_cons_succ, z4, z5]; exact Is.mk _) ?_
                repeat' (first
                  | (refine sw_seq ?_) | (refine sw_block ?_) | (refine sw_skip ?_)
                  | (refine n_then ?_) | (refine r_then ?_) | (refine e_then ?_) | (refine n_block ?_) | (refine r_block ?_) | (refine e_block ?_) | (refine o_block rfl ?_)
                  | (refine sw_run (by simp [-getElem?_pos, -List.reduceReplicate, List.getElem?_cons_zero, List.getElem?_cons_succ, hwj]; exact Is.mk _) ?_) | fail)
                exact ⟨(j + 1, u ++ sSp ++ decI x), ⟨by simp only; omega, by simp only; omega, hR2⟩, by simp only; omega, weak_cut_hp (by simp) (by simp) (by simp [hn, hn0])⟩
              · obtain rfl : j = (seenL w.bad w.n r.det i).length := by omega
                rw [List.drop_length] at hR2
                simp only [bySep] at hR2
                subst hR2
                have z7 : (bySep (lineB w r s i) (seenL w.bad w.n r.det i)).size + ByteArray.size sNl < 4294967296 := by
                  show (bySep (lineB w r s i) (seenL w.bad w.n r.det i)).size + 1 < 4294967296
                  omega
                repeat' (first
                  | (refine sw_seq ?_) | (refine sw_block ?_) | (refine sw_skip ?_) | (refine sw_ret ?_) | (refine sw_exit ?_)
                  | (refine n_then ?_) | (refine r_then ?_) | (refine e_then ?_) | (refine n_block ?_) | (refine r_block ?_) | (refine e_block ?_) | (refine o_block rfl ?_)
                  | (refine sw_run (by simp [-getElem?_pos, -List.reduceReplicate, List.getElem?_cons_zero, List.getElem?_cons_succ, hjl, z7, hw]; exact Is.mk _) ?_)
                  | (refine sw_true (by simp [-getElem?_pos, -List.reduceReplicate, List.getElem?_cons_zero, List.getElem?_cons_succ, hjl, z7, hw]; exact Is.mk _) ?_) | (refine sw_false (by simp [-getElem?_pos, -List.reduceReplicate, List.getElem?_cons_zero, List.getElem?_cons_succ, hjl, z7, hw]; exact Is.mk _) ?_)
                  | (refine sw_yes (by simp; exact Is.mk _) (by assumption) ?_)
                  | (refine sw_no (by simp; exact Is.mk _) (by assumption) ?_)
                  | (refine sw_if (by simp; exact Is.mk _) (fun _ => ?_) (fun _ => ?_)))
                exact ⟨(k + 1, lineC w r s i), ⟨by simp only; omega, by simp only; omega, hR⟩, by simp only; omega, weak_cut_hp (by simp [lineC]) (by simp) (by simp [hn, hn0])⟩
      · obtain rfl : k = (detL w r).length := by omega
        rw [List.drop_length] at hR
        simp only [fmtL] at hR
        repeat' (first
          | (refine sw_seq ?_) | (refine sw_block ?_) | (refine sw_skip ?_) | (refine sw_ret ?_) | (refine sw_exit ?_)
          | (refine n_then ?_) | (refine r_then ?_) | (refine e_then ?_) | (refine n_block ?_) | (refine r_block ?_) | (refine e_block ?_) | (refine o_block rfl ?_)
          | (refine sw_run (by simp [-getElem?_pos, -List.reduceReplicate, List.getElem?_cons_zero, List.getElem?_cons_succ, hlt]; exact Is.mk _) ?_)
          | (refine sw_true (by simp [-getElem?_pos, -List.reduceReplicate, List.getElem?_cons_zero, List.getElem?_cons_succ, hlt]; exact Is.mk _) ?_) | (refine sw_false (by simp [-getElem?_pos, -List.reduceReplicate, List.getElem?_cons_zero, List.getElem?_cons_succ, hlt]; exact Is.mk _) ?_)
          | (refine sw_yes (by simp; exact Is.mk _) (by assumption) ?_)
          | (refine sw_no (by simp; exact Is.mk _) (by assumption) ?_)
          | (refine sw_if (by simp; exact Is.mk _) (fun _ => ?_) (fun _ => ?_)))
        exact end_val (by simp; exact Is.mk _) (by simp [hn0, hn]) ⟨rfl, by rw [fmtS, if_neg hz, hR]⟩

end Go.AM
