/- awake. -/
import Derived.Test.YtmljoaiedihoiaaS10
import Derived.Test.YtmljoaiedihoiaaAm27
namespace Go.AM
set_option linter.unusedVariables false
set_option linter.unusedSimpArgs false
open Go Go.RowKit Go.Proofs

theorem gatesOk_get {p : Int} : ∀ {gs : List Gate} {i j : Nat} {g : Gate}, gatesOk p i gs = true → gs[j]? = some g → gateOk p ((i + j : Nat) : Int) g = true
  | [], _, _, _, _, h => by simp at h
  | x :: gs, i, 0, g, h, hg => by simp at hg; subst hg; simp only [gatesOk, Bool.and_eq_true] at h; simpa using h.1
  | x :: gs, i, j + 1, g, h, hg => by
    simp only [gatesOk, Bool.and_eq_true] at h
    have := gatesOk_get h.2 (j := j) (g := g) (by simpa using hg)
    rwa [show i + 1 + j = i + (j + 1) by omega] at this
theorem opsOk_of {p : Int} {gs : List Gate} (h : gatesOk p 0 gs = true) : opsOk gs := by
  intro i g hg k hk
  have := gatesOk_get h hg
  rw [Nat.zero_add] at this
  unfold gateOk at this
  unfold namedL at hk
  split at hk
  · rename_i hc
    simp only [List.mem_cons, List.not_mem_nil, or_false] at hk
    rw [if_neg (by omega), if_neg (by omega), if_neg (by omega), if_pos hc] at this
    simp only [Bool.and_eq_true, decide_eq_true_eq] at this
    rcases hk with rfl | rfl <;> omega
  · split at hk
    · rename_i h5
      simp only [List.mem_cons, List.not_mem_nil, or_false] at hk
      rw [if_neg (by omega), if_neg (by omega), if_pos h5] at this
      simp only [Bool.and_eq_true, decide_eq_true_eq] at this
      subst hk
      omega
    · simp at hk

theorem plain_ops : opsOk plainG := opsOk_of (p := 31) (by decide +kernel)
theorem plain_deps : depsOk plainG := by
  have e : dep plainG = [0, 0, 0, 0, 1, 1, 2, 2] := by decide +kernel
  refine ⟨by rw [e]; rfl, fun i g hg h6 => ?_⟩
  rw [e]
  rcases i with _ | _ | _ | _ | _ | _ | _ | _ | i
  · simp [plainG] at hg; subst hg; simp at h6
  · simp [plainG] at hg; subst hg; simp at h6
  · simp [plainG] at hg; subst hg; simp at h6
  · simp [plainG] at hg; subst hg; simp at h6
  · exact ⟨1, rfl, by decide, by decide⟩
  · exact ⟨1, rfl, by decide, by decide⟩
  · exact ⟨2, rfl, by decide, by decide⟩
  · exact ⟨2, rfl, by decide, by decide⟩
  · simp [plainG] at hg
theorem plain_new : newS plainG = [[4, 5], [6, 7]] := by decide +kernel
theorem plain_small : Small plainG.length := Small.mk (by decide)
theorem small2 {m : Nat} (h : m < 1000) : Small m := Small.mk (by omega)

abbrev rowI (l : List Int) : Blk := .row 0 3 1 (l.map fun x => [ai x])
theorem view2 (F' : AHeap) (n : Nat) (x : AV) (hx : viewA F' 3 x = some (schedA [[4, 5], [6, 7]])) (h : ∀ p ∈ [(n + 3, Blk.row 0 24 1 [[.own (n + 1) 0 0 2], [.own (n + 2) 0 0 2]]), (n + 2, rowI [6, 7]), (n + 1, rowI [4, 5])], F' p.1 = some p.2) :
    [x, .agg [.own (n + 3) 0 0 2]].mapM (viewA F' 3) = some [schedA [[4, 5], [6, 7]], schedA [[4, 5], [6, 7]]] := by
  simp only [List.forall_mem_cons] at h
  have h1 := h.1
  have h2 := h.2.1
  have h3 := h.2.2.1
  simp [hx]
  simp [viewA, viewP, h1, h2, h3, lays, ints]
theorem view1 (F' : AHeap) (n : Nat) (h : ∀ p ∈ [(n + 5, Blk.row 0 24 1 [[.own (n + 4) 0 0 4]]), (n + 4, rowI [4, 5, 6, 7])], F' p.1 = some p.2) :
    [circA 31 plainG [6, 7], .agg [.own (n + 5) 0 0 1]].mapM (viewA F' 3) = some [circA 31 plainG [6, 7], schedA [[4, 5, 6, 7]]] := by
  simp only [List.forall_mem_cons] at h
  have h1 := h.1
  have h2 := h.2.1
  simp [viewA, viewP, h1, h2, lays, ints]

set_option maxHeartbeats 2000000 in
theorem awake_spec : Pure Try.prog 9 [] (ab true) := by
  refine pure_of Try.func9 rfl Try.ntmps9 (by simp) fun F n hF hn hn0 => ?_
  repeat' (first
    | (refine sw_seq ?_) | (refine sw_block ?_) | (refine sw_skip ?_) | (refine sw_ret ?_) | (refine sw_exit ?_)
    | (refine n_then ?_) | (refine r_then ?_) | (refine e_then ?_) | (refine n_block ?_) | (refine r_block ?_) | (refine e_block ?_) | (refine o_block rfl ?_)
    | (refine sw_run (by simp []; exact Is.mk _) ?_)
    | (refine sw_true (by simp []; exact Is.mk _) ?_) | (refine sw_false (by simp []; exact Is.mk _) ?_)
    | (refine sw_yes (by simp; exact Is.mk _) (by assumption) ?_)
    | (refine sw_no (by simp; exact Is.mk _) (by assumption) ?_)
    | (refine sw_if (by simp; exact Is.mk _) (fun _ => ?_) (fun _ => ?_)))
  refine sw_ss ?_
  repeat (refine ss_op rfl (by simp []; exact Is.mk _) ?_)
  refine ss_pure rfl rfl rfl (by simp; exact Is.mk _) (by kernel_rfl) (plain_spec) ?_
  repeat (refine ss_op rfl (by simp []; exact Is.mk _) ?_)
  refine ss_pure rfl rfl rfl (by simp; exact Is.mk _) (by kernel_rfl) (new_spec 31 plainG [6, 7] plain_small plain_ops plain_deps) ?_
  rw [plain_new]
  refine ss_all (by simp []; exact Is.mk _) ?_
  repeat' (first
    | (refine sw_seq ?_) | (refine sw_block ?_) | (refine sw_skip ?_) | (refine sw_ret ?_) | (refine sw_exit ?_)
    | (refine n_then ?_) | (refine r_then ?_) | (refine e_then ?_) | (refine n_block ?_) | (refine r_block ?_) | (refine e_block ?_) | (refine o_block rfl ?_)
    | (refine sw_run (by simp []; exact Is.mk _) ?_)
    | (refine sw_true (by simp []; exact Is.mk _) ?_) | (refine sw_false (by simp []; exact Is.mk _) ?_)
    | (refine sw_yes (by simp; exact Is.mk _) (by assumption) ?_)
    | (refine sw_no (by simp; exact Is.mk _) (by assumption) ?_)
    | (refine sw_if (by simp; exact Is.mk _) (fun _ => ?_) (fun _ => ?_)))
  have hsame := same_spec [[4, 5], [6, 7]] [[4, 5], [6, 7]] (small2 (by decide)) (by simp; exact small2 (by decide))
  have hval1 := valid_spec 31 plainG [6, 7] [[4, 5], [6, 7]] plain_small plain_ops (small2 (by decide)) (by simp; exact small2 (by decide))
  rw [show validS plainG [[4, 5], [6, 7]] = true by decide +kernel] at hval1
  have hval2 := valid_spec 31 plainG [6, 7] [[4, 5, 6, 7]] plain_small plain_ops (small2 (by decide)) (by simp; exact small2 (by decide))
  rw [show validS plainG [[4, 5, 6, 7]] = false by decide +kernel] at hval2
  have htrip := triples_spec 31 plainG [6, 7] plain_small
  rw [show trip plainG = 5 by decide +kernel] at htrip
  have hrnd := rounds_spec 31 4 1 31 plainG [6, 7] plain_small plain_ops plain_deps
  rw [show roundsV plainG [6, 7] = 21 by decide +kernel] at hrnd
  refine sw_draw (us := [(0,1),(0,2),(1,2),(0,3),(7,8),(12,13),(12,14),(12,15),(25,26)]) mixed (by kernel_rfl) (by kernel_rfl) ?_
  iterate 5 refine ds_op rfl (by simp; exact Is.mk _) ?_
  refine ds_view 3 (rd := [(n + 3, Blk.row 0 24 1 [[.own (n + 1) 0 0 2], [.own (n + 2) 0 0 2]]), (n + 2, rowI [6, 7]), (n + 1, rowI [4, 5])]) rfl (by simp; exact Is.mk _) rfl (by simp; exact Is.mk _) (by kernel_rfl) hsame (fun F' h => view2 F' n _ (by simp [viewA, viewP]) h) (by simp) ?_
  refine ds_op rfl (by simp; exact Is.mk _) ?_
  refine ds_pure_g rfl (by simp; exact Is.mk _) rfl (by simp; exact Is.mk _) (by kernel_rfl) plain_spec ?_
  refine ds_op rfl (by simp; exact Is.mk _) ?_
  refine ds_pure_g rfl (by simp; exact Is.mk _) rfl (by simp; exact Is.mk _) (by kernel_rfl) hval1 ?_
  iterate 2 refine ds_op rfl (by simp; exact Is.mk _) ?_
  refine ds_pure_g rfl (by simp; exact Is.mk _) rfl (by simp; exact Is.mk _) (by kernel_rfl) plain_spec ?_
  iterate 3 refine ds_op rfl (by simp; exact Is.mk _) ?_
  refine ds_view 3 (rd := [(n + 5, Blk.row 0 24 1 [[.own (n + 4) 0 0 4]]), (n + 4, rowI [4, 5, 6, 7])]) rfl (by simp; exact Is.mk _) rfl (by simp; exact Is.mk _) (by kernel_rfl) hval2 (fun F' h => view1 F' n h) (by simp) ?_
  iterate 3 refine ds_op rfl (by simp; exact Is.mk _) ?_
  refine ds_pure_g rfl (by simp; exact Is.mk _) rfl (by simp; exact Is.mk _) (by kernel_rfl) plain_spec ?_
  refine ds_pure_g rfl (by simp; exact Is.mk _) rfl (by simp; exact Is.mk _) (by kernel_rfl) htrip ?_
  iterate 4 refine ds_op rfl (by simp; exact Is.mk _) ?_
  refine ds_pure_g rfl (by simp; exact Is.mk _) rfl (by simp; exact Is.mk _) (by kernel_rfl) plain_spec ?_
  refine ds_pure_g rfl (by simp; exact Is.mk _) rfl (by simp; exact Is.mk _) (by kernel_rfl) hrnd ?_
  iterate 3 refine ds_op rfl (by simp; exact Is.mk _) ?_
  refine ds_nil (by simp [disAll, EDisj, wids, rids]) ?_
  repeat' (first
    | (refine sw_seq ?_) | (refine sw_block ?_) | (refine sw_skip ?_) | (refine sw_ret ?_) | (refine sw_exit ?_)
    | (refine n_then ?_) | (refine r_then ?_) | (refine e_then ?_) | (refine n_block ?_) | (refine r_block ?_) | (refine e_block ?_) | (refine o_block rfl ?_)
    | (refine sw_run (by simp []; exact Is.mk _) ?_)
    | (refine sw_true (by simp []; exact Is.mk _) ?_) | (refine sw_false (by simp []; exact Is.mk _) ?_)
    | (refine sw_yes (by simp; exact Is.mk _) (by assumption) ?_)
    | (refine sw_no (by simp; exact Is.mk _) (by assumption) ?_)
    | (refine sw_if (by simp; exact Is.mk _) (fun _ => ?_) (fun _ => ?_)))
  exact end_val (by simp; exact Is.mk _) (by simp [hn0, hn]) ⟨rfl, rfl⟩

end Go.AM
