/- The laws BlameDetected and BlameIgnoresCorrupt; shapes of the arguments. -/
import Derived.Test.YtmljoaiedihoiaaDoorB17
namespace Go.AM
set_option linter.unusedVariables false
set_option linter.unusedSimpArgs false
open Go Go.RowKit Go.Proofs

theorem coal_in {n : Int} : ∀ {l : List Int} {y : Option Int}, coalFrom n y l = true → ∀ x ∈ l, 1 ≤ x ∧ x ≤ n
  | [], _, _ => by simp
  | x :: r, y, h => by
    have h : 1 ≤ x ∧ x ≤ n ∧ coalFrom n (some x) r = true := by
      cases y <;> simp only [coalFrom, Bool.and_eq_true, decide_eq_true_eq] at h
      · exact ⟨h.1.1.1, h.1.1.2, h.2⟩
      · exact ⟨h.1.1.1, h.1.1.2, h.2⟩
    obtain ⟨h1, h2, h3⟩ := h
    intro z hz
    rcases List.mem_cons.1 hz with rfl | hz
    · exact ⟨h1, h2⟩
    · exact coal_in h3 z hz

structure Good (w : Scen) (r : Res) : Prop where
  bad : Small w.bad.length
  in_ : ∀ x ∈ w.bad, 0 ≤ x ∧ x < 14
  n0 : 0 ≤ w.n
  n13 : w.n ≤ 13
  det : ∀ x ∈ r.det, Small x.length
  dl : Small r.det.length
  di : Small r.dis.length

theorem good_of {w : Scen} {r : Res} (h1 : fairOk w 20 100 = true) (h2 : fewR r = true) : Good w r := by
  simp only [fairOk, scenOk, coalOk, fewR, Bool.and_eq_true, decide_eq_true_eq] at h1 h2
  obtain ⟨⟨⟨⟨_, h3⟩, h4⟩, _⟩, ⟨⟨⟨⟨h5, _⟩, h6⟩, _⟩, _⟩, _⟩ := h1
  obtain ⟨⟨q1, q2⟩, q3⟩ := h2
  have hp := params_le h5
  have hc := coal_in h6
  have hs := short_all q1
  exact ⟨Small.mk (by omega), fun x hx => by have := hc x hx; omega, by omega, by omega, fun x hx => Small.mk (by have := hs x hx; omega), Small.mk (by omega), Small.mk (by omega)⟩

set_option maxHeartbeats 2000000 in
theorem law_detected (w : Scen) (r : Res) : Pure Tryd.prog 4 [scenA w, resA r] (ab true) := by
  refine pure_of Tryd.func4 rfl Tryd.ntmps4 (by simp) fun F n hF hn hn0 => ?_
  have hfew := few_spec r
  repeat' (first
    | (refine sw_seq ?_) | (refine sw_block ?_) | (refine sw_skip ?_)
    | (refine n_then ?_) | (refine r_then ?_) | (refine e_then ?_) | (refine n_block ?_) | (refine r_block ?_) | (refine e_block ?_) | (refine o_block rfl ?_)
    | (refine sw_run (by simp [-getElem?_pos, -List.reduceReplicate, List.getElem?_cons_zero, List.getElem?_cons_succ, ]; exact Is.mk _) ?_) | fail)
  refine sw_ss ?_
  repeat (refine ss_op rfl (by simp [-getElem?_pos, -List.reduceReplicate, List.getElem?_cons_zero, List.getElem?_cons_succ, ]; exact Is.mk _) ?_)
  refine ss_pure rfl rfl rfl (by simp [-getElem?_pos, -List.reduceReplicate, List.getElem?_cons_zero, List.getElem?_cons_succ]; exact Is.mk _) (by kernel_rfl) (fair_spec w 20 100 (by omega) (by omega)) ?_
  cases h1 : fairOk w 20 100
  · refine ss_all (by simp [-getElem?_pos, -List.reduceReplicate, List.getElem?_cons_zero, List.getElem?_cons_succ, ]; exact Is.mk _) ?_
    repeat' (first
      | (refine sw_seq ?_) | (refine sw_block ?_) | (refine sw_skip ?_) | (refine sw_ret ?_) | (refine sw_exit ?_)
      | (refine n_then ?_) | (refine r_then ?_) | (refine e_then ?_) | (refine n_block ?_) | (refine r_block ?_) | (refine e_block ?_) | (refine o_block rfl ?_)
      | (refine sw_run (by simp [-getElem?_pos, -List.reduceReplicate, List.getElem?_cons_zero, List.getElem?_cons_succ, ]; exact Is.mk _) ?_)
      | (refine sw_true (by simp [-getElem?_pos, -List.reduceReplicate, List.getElem?_cons_zero, List.getElem?_cons_succ, ]; exact Is.mk _) ?_) | (refine sw_false (by simp [-getElem?_pos, -List.reduceReplicate, List.getElem?_cons_zero, List.getElem?_cons_succ, ]; exact Is.mk _) ?_)
      | (refine sw_yes (by simp; exact Is.mk _) (by assumption) ?_)
      | (refine sw_no (by simp; exact Is.mk _) (by assumption) ?_)
      | (refine sw_if (by simp; exact Is.mk _) (fun _ => ?_) (fun _ => ?_)))
    refine sw_ss ?_
    repeat (refine ss_op rfl (by simp [-getElem?_pos, -List.reduceReplicate, List.getElem?_cons_zero, List.getElem?_cons_succ, ]; exact Is.mk _) ?_)
    refine ss_pure rfl rfl rfl (by simp [-getElem?_pos, -List.reduceReplicate, List.getElem?_cons_zero, List.getElem?_cons_succ]; exact Is.mk _) (by kernel_rfl) (awake_spec) ?_
    refine ss_all (by simp [-getElem?_pos, -List.reduceReplicate, List.getElem?_cons_zero, List.getElem?_cons_succ, ]; exact Is.mk _) ?_
    repeat' (first
      | (refine sw_seq ?_) | (refine sw_block ?_) | (refine sw_skip ?_) | (refine sw_ret ?_) | (refine sw_exit ?_)
      | (refine n_then ?_) | (refine r_then ?_) | (refine e_then ?_) | (refine n_block ?_) | (refine r_block ?_) | (refine e_block ?_) | (refine o_block rfl ?_)
      | (refine sw_run (by simp [-getElem?_pos, -List.reduceReplicate, List.getElem?_cons_zero, List.getElem?_cons_succ, ]; exact Is.mk _) ?_)
      | (refine sw_true (by simp [-getElem?_pos, -List.reduceReplicate, List.getElem?_cons_zero, List.getElem?_cons_succ, ]; exact Is.mk _) ?_) | (refine sw_false (by simp [-getElem?_pos, -List.reduceReplicate, List.getElem?_cons_zero, List.getElem?_cons_succ, ]; exact Is.mk _) ?_)
      | (refine sw_yes (by simp; exact Is.mk _) (by assumption) ?_)
      | (refine sw_no (by simp; exact Is.mk _) (by assumption) ?_)
      | (refine sw_if (by simp; exact Is.mk _) (fun _ => ?_) (fun _ => ?_)))
    exact end_val (by simp; exact Is.mk _) (by simp [hn0, hn]) ⟨rfl, rfl⟩
  · cases h2 : fewR r
    · rw [h2] at hfew
      repeat (refine ss_op rfl (by simp [-getElem?_pos, -List.reduceReplicate, List.getElem?_cons_zero, List.getElem?_cons_succ, ]; exact Is.mk _) ?_)
      refine ss_pure_g rfl (by simp [-getElem?_pos, -List.reduceReplicate, List.getElem?_cons_zero, List.getElem?_cons_succ, ]; exact Is.mk _) rfl (by simp; exact Is.mk _) (by kernel_rfl) (hfew) ?_
      refine ss_all (by simp [-getElem?_pos, -List.reduceReplicate, List.getElem?_cons_zero, List.getElem?_cons_succ, ]; exact Is.mk _) ?_
      repeat' (first
        | (refine sw_seq ?_) | (refine sw_block ?_) | (refine sw_skip ?_) | (refine sw_ret ?_) | (refine sw_exit ?_)
        | (refine n_then ?_) | (refine r_then ?_) | (refine e_then ?_) | (refine n_block ?_) | (refine r_block ?_) | (refine e_block ?_) | (refine o_block rfl ?_)
        | (refine sw_run (by simp [-getElem?_pos, -List.reduceReplicate, List.getElem?_cons_zero, List.getElem?_cons_succ, ]; exact Is.mk _) ?_)
        | (refine sw_true (by simp [-getElem?_pos, -List.reduceReplicate, List.getElem?_cons_zero, List.getElem?_cons_succ, ]; exact Is.mk _) ?_) | (refine sw_false (by simp [-getElem?_pos, -List.reduceReplicate, List.getElem?_cons_zero, List.getElem?_cons_succ, ]; exact Is.mk _) ?_)
        | (refine sw_yes (by simp; exact Is.mk _) (by assumption) ?_)
        | (refine sw_no (by simp; exact Is.mk _) (by assumption) ?_)
        | (refine sw_if (by simp; exact Is.mk _) (fun _ => ?_) (fun _ => ?_)))
      refine sw_ss ?_
      repeat (refine ss_op rfl (by simp [-getElem?_pos, -List.reduceReplicate, List.getElem?_cons_zero, List.getElem?_cons_succ, ]; exact Is.mk _) ?_)
      refine ss_pure rfl rfl rfl (by simp [-getElem?_pos, -List.reduceReplicate, List.getElem?_cons_zero, List.getElem?_cons_succ]; exact Is.mk _) (by kernel_rfl) (awake_spec) ?_
      refine ss_all (by simp [-getElem?_pos, -List.reduceReplicate, List.getElem?_cons_zero, List.getElem?_cons_succ, ]; exact Is.mk _) ?_
      repeat' (first
        | (refine sw_seq ?_) | (refine sw_block ?_) | (refine sw_skip ?_) | (refine sw_ret ?_) | (refine sw_exit ?_)
        | (refine n_then ?_) | (refine r_then ?_) | (refine e_then ?_) | (refine n_block ?_) | (refine r_block ?_) | (refine e_block ?_) | (refine o_block rfl ?_)
        | (refine sw_run (by simp [-getElem?_pos, -List.reduceReplicate, List.getElem?_cons_zero, List.getElem?_cons_succ, ]; exact Is.mk _) ?_)
        | (refine sw_true (by simp [-getElem?_pos, -List.reduceReplicate, List.getElem?_cons_zero, List.getElem?_cons_succ, ]; exact Is.mk _) ?_) | (refine sw_false (by simp [-getElem?_pos, -List.reduceReplicate, List.getElem?_cons_zero, List.getElem?_cons_succ, ]; exact Is.mk _) ?_)
        | (refine sw_yes (by simp; exact Is.mk _) (by assumption) ?_)
        | (refine sw_no (by simp; exact Is.mk _) (by assumption) ?_)
        | (refine sw_if (by simp; exact Is.mk _) (fun _ => ?_) (fun _ => ?_)))
      exact end_val (by simp; exact Is.mk _) (by simp [hn0, hn]) ⟨rfl, rfl⟩
    · obtain ⟨g1, g2, g3, g4, g5, g6, g7⟩ := good_of h1 h2
      have hdl2 := det_len w r g4
      rw [h2] at hfew
      repeat (refine ss_op rfl (by simp [-getElem?_pos, -List.reduceReplicate, List.getElem?_cons_zero, List.getElem?_cons_succ, ]; exact Is.mk _) ?_)
      refine ss_pure_g rfl (by simp [-getElem?_pos, -List.reduceReplicate, List.getElem?_cons_zero, List.getElem?_cons_succ, ]; exact Is.mk _) rfl (by simp; exact Is.mk _) (by kernel_rfl) (hfew) ?_
      refine ss_all (by simp [-getElem?_pos, -List.reduceReplicate, List.getElem?_cons_zero, List.getElem?_cons_succ, ]; exact Is.mk _) ?_
      repeat' (first
        | (refine sw_seq ?_) | (refine sw_block ?_) | (refine sw_skip ?_) | (refine sw_ret ?_) | (refine sw_exit ?_)
        | (refine n_then ?_) | (refine r_then ?_) | (refine e_then ?_) | (refine n_block ?_) | (refine r_block ?_) | (refine e_block ?_) | (refine o_block rfl ?_)
        | (refine sw_run (by simp [-getElem?_pos, -List.reduceReplicate, List.getElem?_cons_zero, List.getElem?_cons_succ, ]; exact Is.mk _) ?_)
        | (refine sw_true (by simp [-getElem?_pos, -List.reduceReplicate, List.getElem?_cons_zero, List.getElem?_cons_succ, ]; exact Is.mk _) ?_) | (refine sw_false (by simp [-getElem?_pos, -List.reduceReplicate, List.getElem?_cons_zero, List.getElem?_cons_succ, ]; exact Is.mk _) ?_)
        | (refine sw_yes (by simp; exact Is.mk _) (by assumption) ?_)
        | (refine sw_no (by simp; exact Is.mk _) (by assumption) ?_)
        | (refine sw_if (by simp; exact Is.mk _) (fun _ => ?_) (fun _ => ?_)))
      refine sw_draw (us := [(4,5),(4,6),(13,14),(13,15),(22,23),(22,24)]) mixed (by kernel_rfl) (by kernel_rfl) ?_
      repeat (refine ds_op rfl (by simp [-getElem?_pos, -List.reduceReplicate, List.getElem?_cons_zero, List.getElem?_cons_succ, ]; exact Is.mk _) ?_)
      refine ds_pure_g rfl (by simp [-getElem?_pos, -List.reduceReplicate, List.getElem?_cons_zero, List.getElem?_cons_succ, ]; exact Is.mk _) rfl (by simp [-getElem?_pos, -List.reduceReplicate, List.getElem?_cons_zero, List.getElem?_cons_succ]; exact Is.mk _) (by kernel_rfl) (awake_spec) ?_
      repeat (refine ds_op rfl (by simp [-getElem?_pos, -List.reduceReplicate, List.getElem?_cons_zero, List.getElem?_cons_succ, ]; exact Is.mk _) ?_)
      refine ds_pure_g rfl (by simp [-getElem?_pos, -List.reduceReplicate, List.getElem?_cons_zero, List.getElem?_cons_succ, ]; exact Is.mk _) rfl (by simp [-getElem?_pos, -List.reduceReplicate, List.getElem?_cons_zero, List.getElem?_cons_succ]; exact Is.mk _) (by kernel_rfl) (det_spec w r g1 g2 g3 g4 g5 g6 g7) ?_
      repeat (refine ds_op rfl (by simp [-getElem?_pos, -List.reduceReplicate, List.getElem?_cons_zero, List.getElem?_cons_succ, ]; exact Is.mk _) ?_)
      refine ds_pure_g rfl (by simp [-getElem?_pos, -List.reduceReplicate, List.getElem?_cons_zero, List.getElem?_cons_succ, ]; exact Is.mk _) rfl (by simp [-getElem?_pos, -List.reduceReplicate, List.getElem?_cons_zero, List.getElem?_cons_succ]; exact Is.mk _) (by kernel_rfl) (rdet_spec w r g1 g3 g4 g5 g6) ?_
      repeat (refine ds_op rfl (by simp [-getElem?_pos, -List.reduceReplicate, List.getElem?_cons_zero, List.getElem?_cons_succ, ]; exact Is.mk _) ?_)
      refine ds_pure_g rfl (by simp [-getElem?_pos, -List.reduceReplicate, List.getElem?_cons_zero, List.getElem?_cons_succ, ]; exact Is.mk _) rfl (by simp [-getElem?_pos, -List.reduceReplicate, List.getElem?_cons_zero, List.getElem?_cons_succ]; exact Is.mk _) (by kernel_rfl) (numbers_spec (detL w r) (detL w r) (Small.mk (by omega))) ?_
      repeat (refine ds_op rfl (by simp [-getElem?_pos, -List.reduceReplicate, List.getElem?_cons_zero, List.getElem?_cons_succ, ]; exact Is.mk _) ?_)
      refine ds_pure_g rfl (by simp [-getElem?_pos, -List.reduceReplicate, List.getElem?_cons_zero, List.getElem?_cons_succ, ]; exact Is.mk _) rfl (by simp [-getElem?_pos, -List.reduceReplicate, List.getElem?_cons_zero, List.getElem?_cons_succ]; exact Is.mk _) (by kernel_rfl) (only_spec w r g1 g2 g3 g4 g5 g6 g7) ?_
      repeat (refine ds_op rfl (by simp [-getElem?_pos, -List.reduceReplicate, List.getElem?_cons_zero, List.getElem?_cons_succ, ]; exact Is.mk _) ?_)
      refine ds_pure_g rfl (by simp [-getElem?_pos, -List.reduceReplicate, List.getElem?_cons_zero, List.getElem?_cons_succ, ]; exact Is.mk _) rfl (by simp [-getElem?_pos, -List.reduceReplicate, List.getElem?_cons_zero, List.getElem?_cons_succ]; exact Is.mk _) (by kernel_rfl) (ronly_spec w r g1 g3 g4 g5 g6) ?_
      repeat (refine ds_op rfl (by simp [-getElem?_pos, -List.reduceReplicate, List.getElem?_cons_zero, List.getElem?_cons_succ, ]; exact Is.mk _) ?_)
      refine ds_pure_g rfl (by simp [-getElem?_pos, -List.reduceReplicate, List.getElem?_cons_zero, List.getElem?_cons_succ, ]; exact Is.mk _) rfl (by simp [-getElem?_pos, -List.reduceReplicate, List.getElem?_cons_zero, List.getElem?_cons_succ]; exact Is.mk _) (by kernel_rfl) (format_spec w r g1 g2 g3 g4 g5 g6 g7) ?_
      repeat (refine ds_op rfl (by simp [-getElem?_pos, -List.reduceReplicate, List.getElem?_cons_zero, List.getElem?_cons_succ, ]; exact Is.mk _) ?_)
      refine ds_pure_g rfl (by simp [-getElem?_pos, -List.reduceReplicate, List.getElem?_cons_zero, List.getElem?_cons_succ, ]; exact Is.mk _) rfl (by simp [-getElem?_pos, -List.reduceReplicate, List.getElem?_cons_zero, List.getElem?_cons_succ]; exact Is.mk _) (by kernel_rfl) (rformat_spec w r g1 g3 g4 g5 g6) ?_
      refine ds_all (by simp [-getElem?_pos, -List.reduceReplicate, List.getElem?_cons_zero, List.getElem?_cons_succ, ]; exact Is.mk _) (disAll_quiet (by simp)) ?_
      repeat' (first
        | (refine sw_seq ?_) | (refine sw_block ?_) | (refine sw_skip ?_) | (refine sw_ret ?_) | (refine sw_exit ?_)
        | (refine n_then ?_) | (refine r_then ?_) | (refine e_then ?_) | (refine n_block ?_) | (refine r_block ?_) | (refine e_block ?_) | (refine o_block rfl ?_)
        | (refine sw_run (by simp [-getElem?_pos, -List.reduceReplicate, List.getElem?_cons_zero, List.getElem?_cons_succ, ]; exact Is.mk _) ?_)
        | (refine sw_true (by simp [-getElem?_pos, -List.reduceReplicate, List.getElem?_cons_zero, List.getElem?_cons_succ, ]; exact Is.mk _) ?_) | (refine sw_false (by simp [-getElem?_pos, -List.reduceReplicate, List.getElem?_cons_zero, List.getElem?_cons_succ, ]; exact Is.mk _) ?_)
        | (refine sw_yes (by simp; exact Is.mk _) (by assumption) ?_)
        | (refine sw_no (by simp; exact Is.mk _) (by assumption) ?_)
        | (refine sw_if (by simp; exact Is.mk _) (fun _ => ?_) (fun _ => ?_)))
      exact end_val (by simp; exact Is.mk _) (by simp [hn0, hn]) ⟨rfl, by simp; exact beq_self_eq_true (fmtS w r).data⟩

theorem lays_app (ls : List (List Int)) (x : List Int) : pcells (lays ls) ++ [[.p (.sl 1 (ints x))]] = pcells (lays (ls ++ [x])) := by simp [lays, pcells]

@[simp] theorem bytes_beq (s : ByteArray) : (s == s) = true := beq_self_eq_true s.data

def swapL (bad more : List Int) : List (List Int) → Int → List (List Int)
  | [], _ => []
  | y :: l, i => (if inL bad (i + 1) then more else y) :: swapL bad more l (i + 1)
theorem swap_len {bad more : List Int} : ∀ {l : List (List Int)} {i : Int}, (swapL bad more l i).length = l.length
  | [], _ => rfl
  | _ :: l, _ => by simp [swapL, swap_len (l := l)]
theorem swap_get {bad more : List Int} : ∀ {l : List (List Int)} {i : Int} {k : Nat}, inL bad (i + k + 1) = false → (swapL bad more l i)[k]? = l[k]?
  | [], _, _, _ => rfl
  | y :: l, i, 0, h => by
    simp only [Int.natCast_zero, Int.add_zero] at h
    simp [swapL, h]
  | y :: l, i, k + 1, h => by
    simp only [swapL, List.getElem?_cons_succ]
    exact swap_get (l := l) (by rw [← h]; congr 1; omega)
theorem swap_mem {bad more : List Int} {x : List Int} : ∀ {l : List (List Int)} {i : Int}, x ∈ swapL bad more l i → x = more ∨ x ∈ l
  | [], _, h => by simp [swapL] at h
  | y :: l, i, h => by
    simp only [swapL, List.mem_cons] at h
    rcases h with h | h
    · split at h
      · exact .inl h
      · exact .inr (by simp [h])
    · rcases swap_mem h with h | h
      · exact .inl h
      · exact .inr (by simp [h])

def swapR (w : Scen) (r : Res) (more : List Int) : Res := { r with det := swapL w.bad more r.det 0 }
theorem tells_swap (w : Scen) (r : Res) (more : List Int) (i : Int) {j : Int} (h1 : 1 ≤ j) (h2 : inL w.bad j = false) : tells (swapR w r more).det i j = tells r.det i j := by
  unfold tells swapR
  simp only [swap_len, List.getD_eq_getElem?_getD]
  rw [swap_get (by rw [← h2]; congr 1; omega)]
theorem seen_swap (w : Scen) (r : Res) (more : List Int) (i : Int) : seenL w.bad w.n (swapR w r more).det i = seenL w.bad w.n r.det i := by
  unfold seenL
  apply List.filter_congr
  intro j hj
  have := filt_mem.1 hj
  exact tells_swap w r more i this.1 (by have := this.2.2; simpa using this)
theorem det_swap (w : Scen) (r : Res) (more : List Int) : detL w (swapR w r more) = detL w r := by
  unfold detL
  refine filt_congr fun x _ _ => ?_
  unfold detF
  rw [seen_swap]; rfl
theorem line_swap (w : Scen) (r : Res) (more : List Int) (s : ByteArray) (i : Int) : lineC w (swapR w r more) s i = lineC w r s i := by
  unfold lineC lineB lineA
  rw [seen_swap]; rfl
theorem fmtL_swap (w : Scen) (r : Res) (more : List Int) : ∀ {l : List Int} {s : ByteArray}, fmtL w (swapR w r more) s l = fmtL w r s l
  | [], _ => rfl
  | i :: l, s => by rw [fmtL, fmtL, line_swap, fmtL_swap w r more (l := l)]
theorem fmt_swap (w : Scen) (r : Res) (more : List Int) : fmtS w (swapR w r more) = fmtS w r := by
  unfold fmtS
  rw [det_swap, fmtL_swap]

theorem in_det (w : Scen) (r : Res) {i : Int} (h1 : 1 ≤ i) (h2 : i ≤ w.n) (h3 : disq r.dis i = true) : inL (detL w r) i = true := by
  rw [inL_iff]
  exact filt_mem.2 ⟨h1, by omega, by simp [detF, h3]⟩

theorem good_swap {w : Scen} {r : Res} {more : List Int} (h : Good w r) (hm : more.length ≤ 20) : Good w (swapR w r more) where
  bad := h.bad
  in_ := h.in_
  n0 := h.n0
  n13 := h.n13
  det := fun x hx => by
    rcases swap_mem hx with rfl | hx
    · exact Small.mk (by omega)
    · exact h.det x hx
  dl := by show Small (swapL ..).length; rw [swap_len]; exact h.dl
  di := h.di

abbrev swapB (n : Nat) (r : Res) (k : Nat) (ver : Nat) : List AV := [.p (.sl 1 r.outs), .p (.sl 1 r.views), .own (n + 3) ver 0 k, .p (.sl 1 (bools r.dis)), ai r.rounds]

set_option maxHeartbeats 4000000 in
theorem law_ignores (w : Scen) (r : Res) (more : List Int) : Pure Tryd.prog 5 [scenA w, resA r, .p (.sl 1 (ints more))] (ab true) := by
  refine pure_of Tryd.func5 rfl Tryd.ntmps5 (by simp) fun F n hF hn hn0 => ?_
  have hfew := few_spec r
  repeat' (first
    | (refine sw_seq ?_) | (refine sw_block ?_) | (refine sw_skip ?_)
    | (refine n_then ?_) | (refine r_then ?_) | (refine e_then ?_) | (refine n_block ?_) | (refine r_block ?_) | (refine e_block ?_) | (refine o_block rfl ?_)
    | (refine sw_run (by simp [-getElem?_pos, -List.reduceReplicate, List.getElem?_cons_zero, List.getElem?_cons_succ, ]; exact Is.mk _) ?_) | fail)
  refine sw_ss ?_
  repeat (refine ss_op rfl (by simp [-getElem?_pos, -List.reduceReplicate, List.getElem?_cons_zero, List.getElem?_cons_succ, ]; exact Is.mk _) ?_)
  refine ss_pure rfl rfl rfl (by simp [-getElem?_pos, -List.reduceReplicate, List.getElem?_cons_zero, List.getElem?_cons_succ]; exact Is.mk _) (by kernel_rfl) (fair_spec w 20 100 (by omega) (by omega)) ?_
  cases h1 : fairOk w 20 100
  · refine ss_all (by simp [-getElem?_pos, -List.reduceReplicate, List.getElem?_cons_zero, List.getElem?_cons_succ, ]; exact Is.mk _) ?_
    repeat' (first
      | (refine sw_seq ?_) | (refine sw_block ?_) | (refine sw_skip ?_) | (refine sw_ret ?_) | (refine sw_exit ?_)
      | (refine n_then ?_) | (refine r_then ?_) | (refine e_then ?_) | (refine n_block ?_) | (refine r_block ?_) | (refine e_block ?_) | (refine o_block rfl ?_)
      | (refine sw_run (by simp [-getElem?_pos, -List.reduceReplicate, List.getElem?_cons_zero, List.getElem?_cons_succ, ]; exact Is.mk _) ?_)
      | (refine sw_true (by simp [-getElem?_pos, -List.reduceReplicate, List.getElem?_cons_zero, List.getElem?_cons_succ, ]; exact Is.mk _) ?_) | (refine sw_false (by simp [-getElem?_pos, -List.reduceReplicate, List.getElem?_cons_zero, List.getElem?_cons_succ, ]; exact Is.mk _) ?_)
      | (refine sw_yes (by simp; exact Is.mk _) (by assumption) ?_)
      | (refine sw_no (by simp; exact Is.mk _) (by assumption) ?_)
      | (refine sw_if (by simp; exact Is.mk _) (fun _ => ?_) (fun _ => ?_)))
    refine sw_ss ?_
    repeat (refine ss_op rfl (by simp [-getElem?_pos, -List.reduceReplicate, List.getElem?_cons_zero, List.getElem?_cons_succ, ]; exact Is.mk _) ?_)
    refine ss_pure rfl rfl rfl (by simp [-getElem?_pos, -List.reduceReplicate, List.getElem?_cons_zero, List.getElem?_cons_succ]; exact Is.mk _) (by kernel_rfl) (awake_spec) ?_
    refine ss_all (by simp [-getElem?_pos, -List.reduceReplicate, List.getElem?_cons_zero, List.getElem?_cons_succ, ]; exact Is.mk _) ?_
    repeat' (first
      | (refine sw_seq ?_) | (refine sw_block ?_) | (refine sw_skip ?_) | (refine sw_ret ?_) | (refine sw_exit ?_)
      | (refine n_then ?_) | (refine r_then ?_) | (refine e_then ?_) | (refine n_block ?_) | (refine r_block ?_) | (refine e_block ?_) | (refine o_block rfl ?_)
      | (refine sw_run (by simp [-getElem?_pos, -List.reduceReplicate, List.getElem?_cons_zero, List.getElem?_cons_succ, ]; exact Is.mk _) ?_)
      | (refine sw_true (by simp [-getElem?_pos, -List.reduceReplicate, List.getElem?_cons_zero, List.getElem?_cons_succ, ]; exact Is.mk _) ?_) | (refine sw_false (by simp [-getElem?_pos, -List.reduceReplicate, List.getElem?_cons_zero, List.getElem?_cons_succ, ]; exact Is.mk _) ?_)
      | (refine sw_yes (by simp; exact Is.mk _) (by assumption) ?_)
      | (refine sw_no (by simp; exact Is.mk _) (by assumption) ?_)
      | (refine sw_if (by simp; exact Is.mk _) (fun _ => ?_) (fun _ => ?_)))
    exact end_val (by simp; exact Is.mk _) (by simp [hn0, hn]) ⟨rfl, rfl⟩
  · cases h2 : fewR r
    · rw [h2] at hfew
      repeat (refine ss_op rfl (by simp [-getElem?_pos, -List.reduceReplicate, List.getElem?_cons_zero, List.getElem?_cons_succ, ]; exact Is.mk _) ?_)
      refine ss_pure_g rfl (by simp [-getElem?_pos, -List.reduceReplicate, List.getElem?_cons_zero, List.getElem?_cons_succ, ]; exact Is.mk _) rfl (by simp; exact Is.mk _) (by kernel_rfl) (hfew) ?_
      refine ss_all (by simp [-getElem?_pos, -List.reduceReplicate, List.getElem?_cons_zero, List.getElem?_cons_succ, ]; exact Is.mk _) ?_
      repeat' (first
        | (refine sw_seq ?_) | (refine sw_block ?_) | (refine sw_skip ?_) | (refine sw_ret ?_) | (refine sw_exit ?_)
        | (refine n_then ?_) | (refine r_then ?_) | (refine e_then ?_) | (refine n_block ?_) | (refine r_block ?_) | (refine e_block ?_) | (refine o_block rfl ?_)
        | (refine sw_run (by simp [-getElem?_pos, -List.reduceReplicate, List.getElem?_cons_zero, List.getElem?_cons_succ, ]; exact Is.mk _) ?_)
        | (refine sw_true (by simp [-getElem?_pos, -List.reduceReplicate, List.getElem?_cons_zero, List.getElem?_cons_succ, ]; exact Is.mk _) ?_) | (refine sw_false (by simp [-getElem?_pos, -List.reduceReplicate, List.getElem?_cons_zero, List.getElem?_cons_succ, ]; exact Is.mk _) ?_)
        | (refine sw_yes (by simp; exact Is.mk _) (by assumption) ?_)
        | (refine sw_no (by simp; exact Is.mk _) (by assumption) ?_)
        | (refine sw_if (by simp; exact Is.mk _) (fun _ => ?_) (fun _ => ?_)))
      refine sw_ss ?_
      repeat (refine ss_op rfl (by simp [-getElem?_pos, -List.reduceReplicate, List.getElem?_cons_zero, List.getElem?_cons_succ, ]; exact Is.mk _) ?_)
      refine ss_pure rfl rfl rfl (by simp [-getElem?_pos, -List.reduceReplicate, List.getElem?_cons_zero, List.getElem?_cons_succ]; exact Is.mk _) (by kernel_rfl) (awake_spec) ?_
      refine ss_all (by simp [-getElem?_pos, -List.reduceReplicate, List.getElem?_cons_zero, List.getElem?_cons_succ, ]; exact Is.mk _) ?_
      repeat' (first
        | (refine sw_seq ?_) | (refine sw_block ?_) | (refine sw_skip ?_) | (refine sw_ret ?_) | (refine sw_exit ?_)
        | (refine n_then ?_) | (refine r_then ?_) | (refine e_then ?_) | (refine n_block ?_) | (refine r_block ?_) | (refine e_block ?_) | (refine o_block rfl ?_)
        | (refine sw_run (by simp [-getElem?_pos, -List.reduceReplicate, List.getElem?_cons_zero, List.getElem?_cons_succ, ]; exact Is.mk _) ?_)
        | (refine sw_true (by simp [-getElem?_pos, -List.reduceReplicate, List.getElem?_cons_zero, List.getElem?_cons_succ, ]; exact Is.mk _) ?_) | (refine sw_false (by simp [-getElem?_pos, -List.reduceReplicate, List.getElem?_cons_zero, List.getElem?_cons_succ, ]; exact Is.mk _) ?_)
        | (refine sw_yes (by simp; exact Is.mk _) (by assumption) ?_)
        | (refine sw_no (by simp; exact Is.mk _) (by assumption) ?_)
        | (refine sw_if (by simp; exact Is.mk _) (fun _ => ?_) (fun _ => ?_)))
      exact end_val (by simp; exact Is.mk _) (by simp [hn0, hn]) ⟨rfl, rfl⟩
    · have hgood := good_of h1 h2
      obtain ⟨g1, g2, g3, g4, g5, g6, g7⟩ := good_of h1 h2
      have hdl2 := det_len w r g4
      have hfl : r.det.length ≤ 30 ∧ r.dis.length ≤ 30 := by
        simp only [fewR, Bool.and_eq_true, decide_eq_true_eq] at h2
        omega
      rw [h2] at hfew
      repeat (refine ss_op rfl (by simp [-getElem?_pos, -List.reduceReplicate, List.getElem?_cons_zero, List.getElem?_cons_succ, ]; exact Is.mk _) ?_)
      refine ss_pure_g rfl (by simp [-getElem?_pos, -List.reduceReplicate, List.getElem?_cons_zero, List.getElem?_cons_succ, ]; exact Is.mk _) rfl (by simp; exact Is.mk _) (by kernel_rfl) (hfew) ?_
      by_cases hm : 20 < (more.length : Int)
      · refine ss_all (by simp [-getElem?_pos, -List.reduceReplicate, List.getElem?_cons_zero, List.getElem?_cons_succ, hm]; exact Is.mk _) ?_
        repeat' (first
          | (refine sw_seq ?_) | (refine sw_block ?_) | (refine sw_skip ?_) | (refine sw_ret ?_) | (refine sw_exit ?_)
          | (refine n_then ?_) | (refine r_then ?_) | (refine e_then ?_) | (refine n_block ?_) | (refine r_block ?_) | (refine e_block ?_) | (refine o_block rfl ?_)
          | (refine sw_run (by simp [-getElem?_pos, -List.reduceReplicate, List.getElem?_cons_zero, List.getElem?_cons_succ, ]; exact Is.mk _) ?_)
          | (refine sw_true (by simp [-getElem?_pos, -List.reduceReplicate, List.getElem?_cons_zero, List.getElem?_cons_succ, ]; exact Is.mk _) ?_) | (refine sw_false (by simp [-getElem?_pos, -List.reduceReplicate, List.getElem?_cons_zero, List.getElem?_cons_succ, ]; exact Is.mk _) ?_)
          | (refine sw_yes (by simp; exact Is.mk _) (by assumption) ?_)
          | (refine sw_no (by simp; exact Is.mk _) (by assumption) ?_)
          | (refine sw_if (by simp; exact Is.mk _) (fun _ => ?_) (fun _ => ?_)))
        refine sw_ss ?_
        repeat (refine ss_op rfl (by simp [-getElem?_pos, -List.reduceReplicate, List.getElem?_cons_zero, List.getElem?_cons_succ, ]; exact Is.mk _) ?_)
        refine ss_pure rfl rfl rfl (by simp [-getElem?_pos, -List.reduceReplicate, List.getElem?_cons_zero, List.getElem?_cons_succ]; exact Is.mk _) (by kernel_rfl) (awake_spec) ?_
        refine ss_all (by simp [-getElem?_pos, -List.reduceReplicate, List.getElem?_cons_zero, List.getElem?_cons_succ, ]; exact Is.mk _) ?_
        repeat' (first
          | (refine sw_seq ?_) | (refine sw_block ?_) | (refine sw_skip ?_) | (refine sw_ret ?_) | (refine sw_exit ?_)
          | (refine n_then ?_) | (refine r_then ?_) | (refine e_then ?_) | (refine n_block ?_) | (refine r_block ?_) | (refine e_block ?_) | (refine o_block rfl ?_)
          | (refine sw_run (by simp [-getElem?_pos, -List.reduceReplicate, List.getElem?_cons_zero, List.getElem?_cons_succ, ]; exact Is.mk _) ?_)
          | (refine sw_true (by simp [-getElem?_pos, -List.reduceReplicate, List.getElem?_cons_zero, List.getElem?_cons_succ, ]; exact Is.mk _) ?_) | (refine sw_false (by simp [-getElem?_pos, -List.reduceReplicate, List.getElem?_cons_zero, List.getElem?_cons_succ, ]; exact Is.mk _) ?_)
          | (refine sw_yes (by simp; exact Is.mk _) (by assumption) ?_)
          | (refine sw_no (by simp; exact Is.mk _) (by assumption) ?_)
          | (refine sw_if (by simp; exact Is.mk _) (fun _ => ?_) (fun _ => ?_)))
        exact end_val (by simp; exact Is.mk _) (by simp [hn0, hn]) ⟨rfl, rfl⟩
      · have hgs := good_swap (more := more) hgood (by omega)
        refine ss_all (by simp [-getElem?_pos, -List.reduceReplicate, List.getElem?_cons_zero, List.getElem?_cons_succ, hm]; exact Is.mk _) ?_
        repeat' (first
          | (refine sw_seq ?_) | (refine sw_block ?_) | (refine sw_skip ?_) | (refine sw_ret ?_) | (refine sw_exit ?_)
          | (refine n_then ?_) | (refine r_then ?_) | (refine e_then ?_) | (refine n_block ?_) | (refine r_block ?_) | (refine e_block ?_) | (refine o_block rfl ?_)
          | (refine sw_run (by simp [-getElem?_pos, -List.reduceReplicate, List.getElem?_cons_zero, List.getElem?_cons_succ, ]; exact Is.mk _) ?_)
          | (refine sw_true (by simp [-getElem?_pos, -List.reduceReplicate, List.getElem?_cons_zero, List.getElem?_cons_succ, ]; exact Is.mk _) ?_) | (refine sw_false (by simp [-getElem?_pos, -List.reduceReplicate, List.getElem?_cons_zero, List.getElem?_cons_succ, ]; exact Is.mk _) ?_)
          | (refine sw_yes (by simp; exact Is.mk _) (by assumption) ?_)
          | (refine sw_no (by simp; exact Is.mk _) (by assumption) ?_)
          | (refine sw_if (by simp; exact Is.mk _) (fun _ => ?_) (fun _ => ?_)))
        refine sw_loopI (α := Nat × List (List Int)) (fun x => [(2, .p (.sl 1 (ints more))), (3, .ptr n 0 0 0), (4, .ptr (n + 1) 0 0 0), (7, .ptr (n + 2) 0 0 0), (8, ai x.1)])
          (fun x => [(n + 3, .row x.2.length 24 1 (pcells (lays x.2))), (n + 2, .row 0 46 5 [swapB n r x.2.length x.2.length]), (n + 1, .row 0 46 5 [resR r]), (n, .row 0 42 6 [scenR w])]) (fun _ => n + 4)
          (fun x => x.1 ≤ r.det.length ∧ x.2.length = x.1 ∧ x.2 ++ swapL w.bad more (r.det.drop x.1) x.1 = (swapR w r more).det) (fun x => r.det.length - x.1) (0, []) ⟨Nat.zero_le _, rfl, rfl⟩ ?_ ?_ ?_
        · intro _
          refine weak_adopt_hp (id := n + 3) (sz := 1) (e := 24) (by simp [Nat.add_assoc, hn]) (by simp [lays, pcells]) (by simp [Nat.add_assoc, conv, convT]) ?_ (by simp [Nat.add_assoc])
          simp [Nat.add_assoc, convB, convE, convL, conv, nilA]
        · intro x
          exact fresh_of hF (by omega) (by simp)
        · rintro ⟨k, out⟩ ⟨hk, hlen, hR⟩
          simp only at hk hlen hR ⊢
          by_cases hlt : k < r.det.length
          · obtain ⟨y, hy⟩ := get_lt hlt
            have hw := wrap_succ hlt g6
            have hsm : Small (out.length + 1) := Small.mk (by omega)
            have hapx := lays_app out
            rw [drop_cons hy] at hR
            simp only [swapL] at hR
            repeat' (first
              | (refine sw_seq ?_) | (refine sw_block ?_) | (refine sw_skip ?_)
              | (refine n_then ?_) | (refine r_then ?_) | (refine e_then ?_) | (refine n_block ?_) | (refine r_block ?_) | (refine e_block ?_) | (refine o_block rfl ?_)
              | (refine sw_run (by simp [-getElem?_pos, -List.reduceReplicate, List.getElem?_cons_zero, List.getElem?_cons_succ, hlt]; exact Is.mk _) ?_) | fail)
            first
              | (refine sw_true (by simp [-getElem?_pos, -List.reduceReplicate, List.getElem?_cons_zero, List.getElem?_cons_succ, hlt]; exact Is.mk _) ?_) | (refine sw_false (by simp [-getElem?_pos, -List.reduceReplicate, List.getElem?_cons_zero, List.getElem?_cons_succ, hlt]; exact Is.mk _) ?_)
              | (refine sw_yes (by simp; exact Is.mk _) (by assumption) ?_) | (refine sw_no (by simp; exact Is.mk _) (by assumption) ?_)
            repeat' (first
              | (refine sw_seq ?_) | (refine sw_block ?_) | (refine sw_skip ?_)
              | (refine n_then ?_) | (refine r_then ?_) | (refine e_then ?_) | (refine n_block ?_) | (refine r_block ?_) | (refine e_block ?_) | (refine o_block rfl ?_)
              | (refine sw_run (by simp [-getElem?_pos, -List.reduceReplicate, List.getElem?_cons_zero, List.getElem?_cons_succ, hlt]; exact Is.mk _) ?_) | fail)
            refine sw_ss ?_
            repeat (refine ss_op rfl (by simp [-getElem?_pos, -List.reduceReplicate, List.getElem?_cons_zero, List.getElem?_cons_succ, hw]; exact Is.mk _) ?_)
            refine ss_pure rfl rfl rfl (by simp [-getElem?_pos, -List.reduceReplicate, List.getElem?_cons_zero, List.getElem?_cons_succ]; exact Is.mk _) (by kernel_rfl) (in_spec w.bad ((k : Int) + 1) g1) ?_
            cases hb : inL w.bad ((k : Int) + 1)
            · rw [hb] at hR
              refine ss_all (by simp [-getElem?_pos, -List.reduceReplicate, List.getElem?_cons_zero, List.getElem?_cons_succ, ]; exact Is.mk _) ?_
              repeat' (first
                | (refine sw_seq ?_) | (refine sw_block ?_) | (refine sw_skip ?_)
                | (refine n_then ?_) | (refine r_then ?_) | (refine e_then ?_) | (refine n_block ?_) | (refine r_block ?_) | (refine e_block ?_) | (refine o_block rfl ?_)
                | (refine sw_run (by simp [-getElem?_pos, -List.reduceReplicate, List.getElem?_cons_zero, List.getElem?_cons_succ, ]; exact Is.mk _) ?_) | fail)
              first
                | (refine sw_true (by simp [-getElem?_pos, -List.reduceReplicate, List.getElem?_cons_zero, List.getElem?_cons_succ, ]; exact Is.mk _) ?_) | (refine sw_false (by simp [-getElem?_pos, -List.reduceReplicate, List.getElem?_cons_zero, List.getElem?_cons_succ, ]; exact Is.mk _) ?_)
                | (refine sw_yes (by simp; exact Is.mk _) (by assumption) ?_) | (refine sw_no (by simp; exact Is.mk _) (by assumption) ?_)
              refine sw_draw (us := [(0,7),(1,7)]) mixed (by kernel_rfl) (by kernel_rfl) (ds_all (by simp [-getElem?_pos, -List.reduceReplicate, List.getElem?_cons_zero, List.getElem?_cons_succ, hlt, hy, hsm]; exact Is.mk _) (by simp [disAll, EDisj, wids, rids]) ?_)
              repeat' (first
                | (refine sw_seq ?_) | (refine sw_block ?_) | (refine sw_skip ?_) | (refine sw_ret ?_) | (refine sw_exit ?_)
                | (refine n_then ?_) | (refine r_then ?_) | (refine e_then ?_) | (refine n_block ?_) | (refine r_block ?_) | (refine e_block ?_) | (refine o_block rfl ?_)
                | (refine sw_run (by simp [-getElem?_pos, -List.reduceReplicate, List.getElem?_cons_zero, List.getElem?_cons_succ, hw]; exact Is.mk _) ?_)
                | (refine sw_true (by simp [-getElem?_pos, -List.reduceReplicate, List.getElem?_cons_zero, List.getElem?_cons_succ, hw]; exact Is.mk _) ?_) | (refine sw_false (by simp [-getElem?_pos, -List.reduceReplicate, List.getElem?_cons_zero, List.getElem?_cons_succ, hw]; exact Is.mk _) ?_)
                | (refine sw_yes (by simp; exact Is.mk _) (by assumption) ?_)
                | (refine sw_no (by simp; exact Is.mk _) (by assumption) ?_)
                | (refine sw_if (by simp; exact Is.mk _) (fun _ => ?_) (fun _ => ?_)))
              exact ⟨(k + 1, out ++ [y]), ⟨by simp only; omega, by simp [hlen], by simpa using hR⟩, by simp only; omega, weak_cut_hp (by simp) (by simp [hapx, lays_app]) (by simp [hn, hn0])⟩
            · rw [hb] at hR
              refine ss_all (by simp [-getElem?_pos, -List.reduceReplicate, List.getElem?_cons_zero, List.getElem?_cons_succ, ]; exact Is.mk _) ?_
              repeat' (first
                | (refine sw_seq ?_) | (refine sw_block ?_) | (refine sw_skip ?_) | (refine sw_ret ?_) | (refine sw_exit ?_)
                | (refine n_then ?_) | (refine r_then ?_) | (refine e_then ?_) | (refine n_block ?_) | (refine r_block ?_) | (refine e_block ?_) | (refine o_block rfl ?_)
                | (refine sw_run (by simp [-getElem?_pos, -List.reduceReplicate, List.getElem?_cons_zero, List.getElem?_cons_succ, hsm, hw]; exact Is.mk _) ?_)
                | (refine sw_true (by simp [-getElem?_pos, -List.reduceReplicate, List.getElem?_cons_zero, List.getElem?_cons_succ, hsm, hw]; exact Is.mk _) ?_) | (refine sw_false (by simp [-getElem?_pos, -List.reduceReplicate, List.getElem?_cons_zero, List.getElem?_cons_succ, hsm, hw]; exact Is.mk _) ?_)
                | (refine sw_yes (by simp; exact Is.mk _) (by assumption) ?_)
                | (refine sw_no (by simp; exact Is.mk _) (by assumption) ?_)
                | (refine sw_if (by simp; exact Is.mk _) (fun _ => ?_) (fun _ => ?_)))
              exact ⟨(k + 1, out ++ [more]), ⟨by simp only; omega, by simp [hlen], by simpa using hR⟩, by simp only; omega, weak_cut_hp (by simp) (by simp [hapx, lays_app]) (by simp [hn, hn0])⟩
          · obtain rfl : k = r.det.length := by omega
            rw [List.drop_length] at hR
            simp only [swapL, List.append_nil] at hR
            repeat' (first
              | (refine sw_seq ?_) | (refine sw_block ?_) | (refine sw_skip ?_)
              | (refine n_then ?_) | (refine r_then ?_) | (refine e_then ?_) | (refine n_block ?_) | (refine r_block ?_) | (refine e_block ?_) | (refine o_block rfl ?_)
              | (refine sw_run (by simp [-getElem?_pos, -List.reduceReplicate, List.getElem?_cons_zero, List.getElem?_cons_succ, hlt]; exact Is.mk _) ?_) | fail)
            first
              | (refine sw_true (by simp [-getElem?_pos, -List.reduceReplicate, List.getElem?_cons_zero, List.getElem?_cons_succ, hlt]; exact Is.mk _) ?_) | (refine sw_false (by simp [-getElem?_pos, -List.reduceReplicate, List.getElem?_cons_zero, List.getElem?_cons_succ, hlt]; exact Is.mk _) ?_)
              | (refine sw_yes (by simp; exact Is.mk _) (by assumption) ?_) | (refine sw_no (by simp; exact Is.mk _) (by assumption) ?_)
            repeat' (first
              | (refine sw_seq ?_) | (refine sw_block ?_) | (refine sw_skip ?_)
              | (refine n_then ?_) | (refine r_then ?_) | (refine e_then ?_) | (refine n_block ?_) | (refine r_block ?_) | (refine e_block ?_) | (refine o_block rfl ?_)
              | (refine sw_run (by simp [-getElem?_pos, -List.reduceReplicate, List.getElem?_cons_zero, List.getElem?_cons_succ, ]; exact Is.mk _) ?_) | fail)
            refine sw_weak (t' := [(2, .p (.sl 1 (ints more))), (3, .ptr n 0 0 0), (4, .ptr (n + 1) 0 0 0), (7, .ptr (n + 2) 0 0 0)]) (L' := [(n + 2, .row 0 46 5 [resR (swapR w r more)]), (n + 1, .row 0 46 5 [resR r]), (n, .row 0 42 6 [scenR w])]) (n' := n + 4)
              (weak_freeze_hp (id := n + 3) (ver := out.length) (sz := 1) (e := 24) (es := lays out) (by simp) (by simp) (by simp [hn]) (by simp [hR, swapR, convB, convE, convL, conv, frzA_own]; exact (List.take_of_length_le (by simp)).symm) (by simp [hn, hn0])) (fresh_of hF (by omega) (by simp)) ?_
            have hdet := det_spec w (swapR w r more) hgs.bad hgs.in_ hgs.n0 hgs.n13 hgs.det hgs.dl hgs.di
            rw [det_swap] at hdet
            have hfmt := format_spec w (swapR w r more) hgs.bad hgs.in_ hgs.n0 hgs.n13 hgs.det hgs.dl hgs.di
            rw [fmt_swap] at hfmt
            refine sw_exit ?_
            repeat' (first
              | (refine sw_seq ?_) | (refine sw_block ?_) | (refine sw_skip ?_)
              | (refine n_then ?_) | (refine r_then ?_) | (refine e_then ?_) | (refine n_block ?_) | (refine r_block ?_) | (refine e_block ?_) | (refine o_block rfl ?_)
              | (refine sw_run (by simp [-getElem?_pos, -List.reduceReplicate, List.getElem?_cons_zero, List.getElem?_cons_succ, ]; exact Is.mk _) ?_) | fail)
            refine sw_draw (us := [(2,3),(2,4)]) mixed (by kernel_rfl) (by kernel_rfl) ?_
            repeat (refine ds_op rfl (by simp [-getElem?_pos, -List.reduceReplicate, List.getElem?_cons_zero, List.getElem?_cons_succ, ]; exact Is.mk _) ?_)
            refine ds_pure_g rfl (by simp [-getElem?_pos, -List.reduceReplicate, List.getElem?_cons_zero, List.getElem?_cons_succ, ]; exact Is.mk _) rfl (by simp [-getElem?_pos, -List.reduceReplicate, List.getElem?_cons_zero, List.getElem?_cons_succ]; exact Is.mk _) (by kernel_rfl) (det_spec w r g1 g2 g3 g4 g5 g6 g7) ?_
            repeat (refine ds_op rfl (by simp [-getElem?_pos, -List.reduceReplicate, List.getElem?_cons_zero, List.getElem?_cons_succ, ]; exact Is.mk _) ?_)
            refine ds_pure_g rfl (by simp [-getElem?_pos, -List.reduceReplicate, List.getElem?_cons_zero, List.getElem?_cons_succ, ]; exact Is.mk _) rfl (by simp [-getElem?_pos, -List.reduceReplicate, List.getElem?_cons_zero, List.getElem?_cons_succ]; exact Is.mk _) (by kernel_rfl) (hdet) ?_
            refine ds_all (by simp [-getElem?_pos, -List.reduceReplicate, List.getElem?_cons_zero, List.getElem?_cons_succ, ]; exact Is.mk _) (disAll_quiet (by simp)) ?_
            repeat' (first
              | (refine sw_seq ?_) | (refine sw_block ?_) | (refine sw_skip ?_)
              | (refine n_then ?_) | (refine r_then ?_) | (refine e_then ?_) | (refine n_block ?_) | (refine r_block ?_) | (refine e_block ?_) | (refine o_block rfl ?_)
              | (refine sw_run (by simp [-getElem?_pos, -List.reduceReplicate, List.getElem?_cons_zero, List.getElem?_cons_succ, ]; exact Is.mk _) ?_) | fail)
            refine sw_draw (us := [(7,8),(7,9)]) mixed (by kernel_rfl) (by kernel_rfl) ?_
            repeat (refine ds_op rfl (by simp [-getElem?_pos, -List.reduceReplicate, List.getElem?_cons_zero, List.getElem?_cons_succ, ]; exact Is.mk _) ?_)
            refine ds_pure_g rfl (by simp [-getElem?_pos, -List.reduceReplicate, List.getElem?_cons_zero, List.getElem?_cons_succ, ]; exact Is.mk _) rfl (by simp [-getElem?_pos, -List.reduceReplicate, List.getElem?_cons_zero, List.getElem?_cons_succ]; exact Is.mk _) (by kernel_rfl) (numbers_spec (detL w r) (detL w r) (Small.mk (by omega))) ?_
            repeat (refine ds_op rfl (by simp [-getElem?_pos, -List.reduceReplicate, List.getElem?_cons_zero, List.getElem?_cons_succ, ]; exact Is.mk _) ?_)
            refine ds_pure_g rfl (by simp [-getElem?_pos, -List.reduceReplicate, List.getElem?_cons_zero, List.getElem?_cons_succ, ]; exact Is.mk _) rfl (by simp [-getElem?_pos, -List.reduceReplicate, List.getElem?_cons_zero, List.getElem?_cons_succ]; exact Is.mk _) (by kernel_rfl) (format_spec w r g1 g2 g3 g4 g5 g6 g7) ?_
            repeat (refine ds_op rfl (by simp [-getElem?_pos, -List.reduceReplicate, List.getElem?_cons_zero, List.getElem?_cons_succ, ]; exact Is.mk _) ?_)
            refine ds_pure_g rfl (by simp [-getElem?_pos, -List.reduceReplicate, List.getElem?_cons_zero, List.getElem?_cons_succ, ]; exact Is.mk _) rfl (by simp [-getElem?_pos, -List.reduceReplicate, List.getElem?_cons_zero, List.getElem?_cons_succ]; exact Is.mk _) (by kernel_rfl) (hfmt) ?_
            refine ds_all (by simp [-getElem?_pos, -List.reduceReplicate, List.getElem?_cons_zero, List.getElem?_cons_succ, ]; exact Is.mk _) (disAll_quiet (by simp)) ?_
            repeat' (first
              | (refine sw_seq ?_) | (refine sw_block ?_) | (refine sw_skip ?_)
              | (refine n_then ?_) | (refine r_then ?_) | (refine e_then ?_) | (refine n_block ?_) | (refine r_block ?_) | (refine e_block ?_) | (refine o_block rfl ?_)
              | (refine sw_run (by simp [-getElem?_pos, -List.reduceReplicate, List.getElem?_cons_zero, List.getElem?_cons_succ, ]; exact Is.mk _) ?_) | fail)
            refine sw_false (by simp [bytes_beq]; exact Is.mk _) ?_
            repeat' (first
              | (refine sw_seq ?_) | (refine sw_block ?_) | (refine sw_skip ?_)
              | (refine n_then ?_) | (refine r_then ?_) | (refine e_then ?_) | (refine n_block ?_) | (refine r_block ?_) | (refine e_block ?_) | (refine o_block rfl ?_)
              | (refine sw_run (by simp [-getElem?_pos, -List.reduceReplicate, List.getElem?_cons_zero, List.getElem?_cons_succ, ]; exact Is.mk _) ?_) | fail)
            refine sw_loopI (α := Nat) (fun x => [(3, .ptr n 0 0 0), (4, .ptr (n + 1) 0 0 0), (9, .p (.sl 1 (ints (detL w r)))), (11, ai ((x : Int) + 1))])
              (fun x => [(n + 1, .row 0 46 5 [resR r]), (n, .row 0 42 6 [scenR w])]) (fun _ => n + 4)
              (fun x => x ≤ w.n.toNat ∧ x ≤ r.dis.length) (fun x => r.dis.length - x) 0 ⟨Nat.zero_le _, Nat.zero_le _⟩ ?_ ?_ ?_
            · intro _
              exact weak_cut_hp (by simp) (by simp) (by simp [hn, hn0])
            · intro x
              exact fresh_of hF (by omega) (by simp)
            · rintro k ⟨hk, hk2⟩
              by_cases c1 : (k : Int) + 1 ≤ w.n
              · by_cases c2 : (k : Int) + 1 ≤ r.dis.length
                · obtain ⟨b, hb⟩ := get_lt (l := r.dis) (k := k) (by omega)
                  have hw1 : IntKind.i64.wrap (k : Int) = k := i64_in (by omega)
                  have hw2 : IntKind.i64.wrap ((k : Int) + 1 + 1) = ((k + 1 : Nat) : Int) + 1 := by rw [i64_in (by omega)]; omega
                  have hd := disq_lt (l := r.dis) (i := (k : Int) + 1) (by omega) (by omega)
                  rw [show ((k : Int) + 1).toNat - 1 = k by omega, hb] at hd
                  have hd := Option.some.inj hd
                  have hkl : k < r.dis.length := by omega
                  repeat' (first
                    | (refine sw_seq ?_) | (refine sw_block ?_) | (refine sw_skip ?_)
                    | (refine n_then ?_) | (refine r_then ?_) | (refine e_then ?_) | (refine n_block ?_) | (refine r_block ?_) | (refine e_block ?_) | (refine o_block rfl ?_)
                    | (refine sw_run (by simp [-getElem?_pos, -List.reduceReplicate, List.getElem?_cons_zero, List.getElem?_cons_succ, c1, c2]; exact Is.mk _) ?_) | fail)
                  first
                    | (refine sw_true (by simp [-getElem?_pos, -List.reduceReplicate, List.getElem?_cons_zero, List.getElem?_cons_succ, c1, c2]; exact Is.mk _) ?_) | (refine sw_false (by simp [-getElem?_pos, -List.reduceReplicate, List.getElem?_cons_zero, List.getElem?_cons_succ, c1, c2]; exact Is.mk _) ?_)
                    | (refine sw_yes (by simp; exact Is.mk _) (by assumption) ?_) | (refine sw_no (by simp; exact Is.mk _) (by assumption) ?_)
                  repeat' (first
                    | (refine sw_seq ?_) | (refine sw_block ?_) | (refine sw_skip ?_)
                    | (refine n_then ?_) | (refine r_then ?_) | (refine e_then ?_) | (refine n_block ?_) | (refine r_block ?_) | (refine e_block ?_) | (refine o_block rfl ?_)
                    | (refine sw_run (by simp [-getElem?_pos, -List.reduceReplicate, List.getElem?_cons_zero, List.getElem?_cons_succ, hw1]; exact Is.mk _) ?_) | fail)
                  refine sw_ss ?_
                  cases b
                  · refine ss_all (by simp [-getElem?_pos, -List.reduceReplicate, List.getElem?_cons_zero, List.getElem?_cons_succ, hw1, hb, hkl]; exact Is.mk _) ?_
                    repeat' (first
                      | (refine sw_seq ?_) | (refine sw_block ?_) | (refine sw_skip ?_) | (refine sw_ret ?_) | (refine sw_exit ?_)
                      | (refine n_then ?_) | (refine r_then ?_) | (refine e_then ?_) | (refine n_block ?_) | (refine r_block ?_) | (refine e_block ?_) | (refine o_block rfl ?_)
                      | (refine sw_run (by simp [-getElem?_pos, -List.reduceReplicate, List.getElem?_cons_zero, List.getElem?_cons_succ, hw2]; exact Is.mk _) ?_)
                      | (refine sw_true (by simp [-getElem?_pos, -List.reduceReplicate, List.getElem?_cons_zero, List.getElem?_cons_succ, hw2]; exact Is.mk _) ?_) | (refine sw_false (by simp [-getElem?_pos, -List.reduceReplicate, List.getElem?_cons_zero, List.getElem?_cons_succ, hw2]; exact Is.mk _) ?_)
                      | (refine sw_yes (by simp; exact Is.mk _) (by assumption) ?_)
                      | (refine sw_no (by simp; exact Is.mk _) (by assumption) ?_)
                      | (refine sw_if (by simp; exact Is.mk _) (fun _ => ?_) (fun _ => ?_)))
                    exact ⟨k + 1, ⟨by omega, by omega⟩, by omega, weak_cut_hp (by simp) (by simp) (by simp [hn, hn0])⟩
                  · repeat (refine ss_op rfl (by simp [-getElem?_pos, -List.reduceReplicate, List.getElem?_cons_zero, List.getElem?_cons_succ, hw1, hb, hkl]; exact Is.mk _) ?_)
                    refine ss_pure_g rfl (by simp [-getElem?_pos, -List.reduceReplicate, List.getElem?_cons_zero, List.getElem?_cons_succ, hw1, hb, hkl]; exact Is.mk _) rfl (by simp; exact Is.mk _) (by kernel_rfl) (in_spec (detL w r) ((k : Int) + 1) (Small.mk (by omega))) ?_
                    rw [in_det w r (by omega) c1 hd.symm]
                    refine ss_all (by simp [-getElem?_pos, -List.reduceReplicate, List.getElem?_cons_zero, List.getElem?_cons_succ, ]; exact Is.mk _) ?_
                    repeat' (first
                      | (refine sw_seq ?_) | (refine sw_block ?_) | (refine sw_skip ?_) | (refine sw_ret ?_) | (refine sw_exit ?_)
                      | (refine n_then ?_) | (refine r_then ?_) | (refine e_then ?_) | (refine n_block ?_) | (refine r_block ?_) | (refine e_block ?_) | (refine o_block rfl ?_)
                      | (refine sw_run (by simp [-getElem?_pos, -List.reduceReplicate, List.getElem?_cons_zero, List.getElem?_cons_succ, hw2]; exact Is.mk _) ?_)
                      | (refine sw_true (by simp [-getElem?_pos, -List.reduceReplicate, List.getElem?_cons_zero, List.getElem?_cons_succ, hw2]; exact Is.mk _) ?_) | (refine sw_false (by simp [-getElem?_pos, -List.reduceReplicate, List.getElem?_cons_zero, List.getElem?_cons_succ, hw2]; exact Is.mk _) ?_)
                      | (refine sw_yes (by simp; exact Is.mk _) (by assumption) ?_)
                      | (refine sw_no (by simp; exact Is.mk _) (by assumption) ?_)
                      | (refine sw_if (by simp; exact Is.mk _) (fun _ => ?_) (fun _ => ?_)))
                    exact ⟨k + 1, ⟨by omega, by omega⟩, by omega, weak_cut_hp (by simp) (by simp) (by simp [hn, hn0])⟩
                · repeat' (first
                    | (refine sw_seq ?_) | (refine sw_block ?_) | (refine sw_skip ?_) | (refine sw_ret ?_) | (refine sw_exit ?_)
                    | (refine n_then ?_) | (refine r_then ?_) | (refine e_then ?_) | (refine n_block ?_) | (refine r_block ?_) | (refine e_block ?_) | (refine o_block rfl ?_)
                    | (refine sw_run (by simp [-getElem?_pos, -List.reduceReplicate, List.getElem?_cons_zero, List.getElem?_cons_succ, c1, c2]; exact Is.mk _) ?_)
                    | (refine sw_true (by simp [-getElem?_pos, -List.reduceReplicate, List.getElem?_cons_zero, List.getElem?_cons_succ, c1, c2]; exact Is.mk _) ?_) | (refine sw_false (by simp [-getElem?_pos, -List.reduceReplicate, List.getElem?_cons_zero, List.getElem?_cons_succ, c1, c2]; exact Is.mk _) ?_)
                    | (refine sw_yes (by simp; exact Is.mk _) (by assumption) ?_)
                    | (refine sw_no (by simp; exact Is.mk _) (by assumption) ?_)
                    | (refine sw_if (by simp; exact Is.mk _) (fun _ => ?_) (fun _ => ?_)))
                  refine sw_ss ?_
                  repeat (refine ss_op rfl (by simp [-getElem?_pos, -List.reduceReplicate, List.getElem?_cons_zero, List.getElem?_cons_succ, ]; exact Is.mk _) ?_)
                  refine ss_pure rfl rfl rfl (by simp [-getElem?_pos, -List.reduceReplicate, List.getElem?_cons_zero, List.getElem?_cons_succ]; exact Is.mk _) (by kernel_rfl) (awake_spec) ?_
                  refine ss_all (by simp [-getElem?_pos, -List.reduceReplicate, List.getElem?_cons_zero, List.getElem?_cons_succ, ]; exact Is.mk _) ?_
                  repeat' (first
                    | (refine sw_seq ?_) | (refine sw_block ?_) | (refine sw_skip ?_) | (refine sw_ret ?_) | (refine sw_exit ?_)
                    | (refine n_then ?_) | (refine r_then ?_) | (refine e_then ?_) | (refine n_block ?_) | (refine r_block ?_) | (refine e_block ?_) | (refine o_block rfl ?_)
                    | (refine sw_run (by simp [-getElem?_pos, -List.reduceReplicate, List.getElem?_cons_zero, List.getElem?_cons_succ, ]; exact Is.mk _) ?_)
                    | (refine sw_true (by simp [-getElem?_pos, -List.reduceReplicate, List.getElem?_cons_zero, List.getElem?_cons_succ, ]; exact Is.mk _) ?_) | (refine sw_false (by simp [-getElem?_pos, -List.reduceReplicate, List.getElem?_cons_zero, List.getElem?_cons_succ, ]; exact Is.mk _) ?_)
                    | (refine sw_yes (by simp; exact Is.mk _) (by assumption) ?_)
                    | (refine sw_no (by simp; exact Is.mk _) (by assumption) ?_)
                    | (refine sw_if (by simp; exact Is.mk _) (fun _ => ?_) (fun _ => ?_)))
                  exact end_val (by simp; exact Is.mk _) (by simp [hn0, hn]) ⟨rfl, rfl⟩
              · repeat' (first
                  | (refine sw_seq ?_) | (refine sw_block ?_) | (refine sw_skip ?_) | (refine sw_ret ?_) | (refine sw_exit ?_)
                  | (refine n_then ?_) | (refine r_then ?_) | (refine e_then ?_) | (refine n_block ?_) | (refine r_block ?_) | (refine e_block ?_) | (refine o_block rfl ?_)
                  | (refine sw_run (by simp [-getElem?_pos, -List.reduceReplicate, List.getElem?_cons_zero, List.getElem?_cons_succ, c1]; exact Is.mk _) ?_)
                  | (refine sw_true (by simp [-getElem?_pos, -List.reduceReplicate, List.getElem?_cons_zero, List.getElem?_cons_succ, c1]; exact Is.mk _) ?_) | (refine sw_false (by simp [-getElem?_pos, -List.reduceReplicate, List.getElem?_cons_zero, List.getElem?_cons_succ, c1]; exact Is.mk _) ?_)
                  | (refine sw_yes (by simp; exact Is.mk _) (by assumption) ?_)
                  | (refine sw_no (by simp; exact Is.mk _) (by assumption) ?_)
                  | (refine sw_if (by simp; exact Is.mk _) (fun _ => ?_) (fun _ => ?_)))
                refine sw_ss ?_
                repeat (refine ss_op rfl (by simp [-getElem?_pos, -List.reduceReplicate, List.getElem?_cons_zero, List.getElem?_cons_succ, ]; exact Is.mk _) ?_)
                refine ss_pure rfl rfl rfl (by simp [-getElem?_pos, -List.reduceReplicate, List.getElem?_cons_zero, List.getElem?_cons_succ]; exact Is.mk _) (by kernel_rfl) (awake_spec) ?_
                refine ss_all (by simp [-getElem?_pos, -List.reduceReplicate, List.getElem?_cons_zero, List.getElem?_cons_succ, ]; exact Is.mk _) ?_
                repeat' (first
                  | (refine sw_seq ?_) | (refine sw_block ?_) | (refine sw_skip ?_) | (refine sw_ret ?_) | (refine sw_exit ?_)
                  | (refine n_then ?_) | (refine r_then ?_) | (refine e_then ?_) | (refine n_block ?_) | (refine r_block ?_) | (refine e_block ?_) | (refine o_block rfl ?_)
                  | (refine sw_run (by simp [-getElem?_pos, -List.reduceReplicate, List.getElem?_cons_zero, List.getElem?_cons_succ, ]; exact Is.mk _) ?_)
                  | (refine sw_true (by simp [-getElem?_pos, -List.reduceReplicate, List.getElem?_cons_zero, List.getElem?_cons_succ, ]; exact Is.mk _) ?_) | (refine sw_false (by simp [-getElem?_pos, -List.reduceReplicate, List.getElem?_cons_zero, List.getElem?_cons_succ, ]; exact Is.mk _) ?_)
                  | (refine sw_yes (by simp; exact Is.mk _) (by assumption) ?_)
                  | (refine sw_no (by simp; exact Is.mk _) (by assumption) ?_)
                  | (refine sw_if (by simp; exact Is.mk _) (fun _ => ?_) (fun _ => ?_)))
                exact end_val (by simp; exact Is.mk _) (by simp [hn0, hn]) ⟨rfl, rfl⟩

def shEvent : Sh := .agg [.int .i64, .int .i64, .sl 1 (.int .u64)]
def shDev : Sh := .agg [.int .i64, .int .i64, .int .i64, .int .i64, .int .i64, .int .u64, .int .i64, .int .i64]
def shScen : Sh := .agg [.agg [.int .u64, .int .i64, .int .i64], .sl 1 (.int .i64), .sl 8 shDev, .sl 1 (.sl 1 (.int .u64))]
def shRes : Sh := .agg [.sl 1 (.sl 1 (.int .u64)), .sl 1 (.sl 3 shEvent), .sl 1 (.sl 1 (.int .i64)), .sl 1 .bool, .int .i64]
theorem ok_scen : shOk Tryd.prog shScen 42 = true := by kernel_rfl
theorem ok_res : shOk Tryd.prog shRes 46 = true := by kernel_rfl
def shInts : Sh := .sl 1 (.int .i64)
theorem ok_ints : shOk Tryd.prog shInts 24 = true := by kernel_rfl
theorem wt_ints {c : List PV} (h : Wt (.sl 1 (.int .i64)) c) : ∃ l, c = [.sl 1 (ints l)] := by
  simp only [Wt] at h
  obtain ⟨es, rfl, h⟩ := h
  obtain ⟨l, rfl, _⟩ := map_of (f := fun n => [pi n]) (R := fun _ => True) (es := es) fun x hx => by obtain ⟨n, h1, _⟩ := h x hx; exact ⟨n, trivial, h1⟩
  exact ⟨l, rfl⟩
theorem wt_words {c : List PV} (h : Wt (.sl 1 (.int .u64)) c) : ∃ l, c = [.sl 1 (words l)] := by
  simp only [Wt] at h
  obtain ⟨es, rfl, h⟩ := h
  obtain ⟨l, rfl, _⟩ := map_of (f := fun n => [pu n]) (R := fun _ => True) (es := es) fun x hx => by obtain ⟨n, h1, _⟩ := h x hx; exact ⟨n, trivial, h1⟩
  exact ⟨l, rfl⟩
theorem wt_bools {c : List PV} (h : Wt (.sl 1 .bool) c) : ∃ l, c = [.sl 1 (bools l)] := by
  simp only [Wt] at h
  obtain ⟨es, rfl, h⟩ := h
  obtain ⟨l, rfl, _⟩ := map_of (f := fun n => [pb n]) (R := fun _ => True) (es := es) fun x hx => by obtain ⟨n, h1⟩ := h x hx; exact ⟨n, trivial, h1⟩
  exact ⟨l, rfl⟩
theorem wt_lays {c : List PV} (h : Wt (.sl 1 (.sl 1 (.int .i64))) c) : ∃ l, c = [.sl 1 (lays l)] := by
  simp only [Wt] at h
  obtain ⟨es, rfl, h⟩ := h
  obtain ⟨l, rfl, _⟩ := map_of (f := fun x => [PV.sl 1 (ints x)]) (R := fun _ => True) (es := es) fun x hx => by obtain ⟨n, h1⟩ := wt_ints (c := x) (by simp only [Wt]; exact h x hx); exact ⟨n, trivial, h1⟩
  exact ⟨l, rfl⟩
theorem wt_wrows {c : List PV} (h : Wt (.sl 1 (.sl 1 (.int .u64))) c) : ∃ l, c = [.sl 1 (wrows l)] := by
  simp only [Wt] at h
  obtain ⟨es, rfl, h⟩ := h
  obtain ⟨l, rfl, _⟩ := map_of (f := fun x => [PV.sl 1 (words x)]) (R := fun _ => True) (es := es) fun x hx => by obtain ⟨n, h1⟩ := wt_words (c := x) (by simp only [Wt]; exact h x hx); exact ⟨n, trivial, h1⟩
  exact ⟨l, rfl⟩
theorem wt_dev {c : List PV} (h : Wt shDev c) : ∃ d : Dev, c = devC d := by
  simp only [shDev, Wt, WtL] at h
  obtain ⟨_, _, rfl, ⟨a, rfl, _⟩, _, _, rfl, ⟨b, rfl, _⟩, _, _, rfl, ⟨c, rfl, _⟩, _, _, rfl, ⟨d, rfl, _⟩, _, _, rfl, ⟨e, rfl, _⟩, _, _, rfl, ⟨f, rfl, _⟩, _, _, rfl, ⟨g, rfl, _⟩, _, _, rfl, ⟨k, rfl, _⟩, rfl⟩ := h
  exact ⟨⟨a, b, c, d, e, f, g, k⟩, rfl⟩
theorem wt_scen {c : List PV} (h : Wt shScen c) : ∃ w, argOf shScen c = scenA w := by
  simp only [shScen, Wt, WtL] at h
  obtain ⟨_, _, rfl, ⟨_, _, rfl, ⟨p, rfl, _⟩, _, _, rfl, ⟨n, rfl, _⟩, _, _, rfl, ⟨t, rfl, _⟩, rfl⟩, x, _, rfl, h2, _, _, rfl, ⟨es, rfl, h3⟩, y, _, rfl, h4, rfl⟩ := h
  obtain ⟨bad, rfl⟩ := wt_ints (c := x) (by simp only [Wt]; exact h2)
  obtain ⟨tapes, rfl⟩ := wt_wrows (c := y) (by simp only [Wt]; exact h4)
  obtain ⟨ds, rfl, _⟩ := map_of (f := devC) (R := fun _ => True) (es := es) fun x hx => by obtain ⟨d, h1⟩ := wt_dev (h3 x hx); exact ⟨d, trivial, h1⟩
  exact ⟨⟨p, n, t, bad, ds, tapes⟩, rfl⟩
theorem wt_res {c : List PV} (h : Wt shRes c) : ∃ r, argOf shRes c = resA r := by
  simp only [shRes, Wt, WtL] at h
  obtain ⟨_, _, rfl, ⟨o, rfl, _⟩, _, _, rfl, ⟨v, rfl, _⟩, x, _, rfl, h3, y, _, rfl, h4, _, _, rfl, ⟨k, rfl, _⟩, rfl⟩ := h
  obtain ⟨d, rfl⟩ := wt_lays (c := x) (by simp only [Wt]; exact h3)
  obtain ⟨q, rfl⟩ := wt_bools (c := y) (by simp only [Wt]; exact h4)
  exact ⟨⟨o, v, d, q, k⟩, rfl⟩
theorem wt_list {c : List PV} (h : Wt shInts c) : ∃ l, argOf shInts c = .p (.sl 1 (ints l)) := by
  obtain ⟨l, rfl⟩ := wt_ints h
  exact ⟨l, rfl⟩

end Go.AM
