/- strings.Builder: Len, String. -/
import Derived.Test.YtmljoaiedihoiaaDoorB13
namespace Go.AM
set_option linter.unusedVariables false
set_option linter.unusedSimpArgs false
open Go Go.RowKit Go.Proofs

@[simp] theorem tlU8P : tLen Tryd.prog 104 = none := by kernel_rfl
theorem uU8P : Tryd.prog.underlying 104 = some (.pointer 5) := by kernel_rfl
theorem cU8 : Tryd.prog.cellsOf 5 = 1 := by kernel_rfl

set_option maxHeartbeats 1000000 in
theorem len_spec (b d m : Nat) (p : AV) (u : ByteArray) (hbd : b ≠ d) :
    Does Tryd.prog 44 [.ptr b 0 0 0] [(b, bldB p (.own d m 0 u.size)), (d, .row m 5 1 (strR u))] [] (ai u.size) := by
  refine does_of Tryd.func44 rfl Tryd.ntmps44 (by simp) fun F n hF hn hn0 hrd => ?_
  have hid : F b = some (bldB p (.own d m 0 u.size)) := hrd _ (List.mem_cons_self ..)
  have hd : F d = some (.row m 5 1 (strR u)) := hrd _ (List.mem_cons_of_mem _ (List.mem_cons_self ..))
  repeat' (first
    | (refine sw_seq ?_) | (refine sw_block ?_) | (refine sw_skip ?_) | (refine sw_ret ?_) | (refine sw_exit ?_)
    | (refine n_then ?_) | (refine r_then ?_) | (refine e_then ?_) | (refine n_block ?_) | (refine r_block ?_) | (refine e_block ?_) | (refine o_block rfl ?_)
    | (refine sw_run (by simp [-getElem?_pos, -List.reduceReplicate, List.getElem?_cons_zero, List.getElem?_cons_succ, hid, hd]; exact Is.mk _) ?_)
    | (refine sw_true (by simp [-getElem?_pos, -List.reduceReplicate, List.getElem?_cons_zero, List.getElem?_cons_succ, hid, hd]; exact Is.mk _) ?_) | (refine sw_false (by simp [-getElem?_pos, -List.reduceReplicate, List.getElem?_cons_zero, List.getElem?_cons_succ, hid, hd]; exact Is.mk _) ?_)
    | (refine sw_yes (by simp; exact Is.mk _) (by assumption) ?_)
    | (refine sw_no (by simp; exact Is.mk _) (by assumption) ?_)
    | (refine sw_if (by simp; exact Is.mk _) (fun _ => ?_) (fun _ => ?_)))
  exact end_val (by simp; exact Is.mk _) (by simp) ⟨rfl, rfl⟩

section
variable {P : Program} {N : Nat} {F : AHeap} {ops : List Oper} {us : List (Nat × Nat)} {Q : SPost} {t : Slots} {L : Locs} {n : Nat} {dn : List Ef} {rest : List Oper}
/-- An operation of a drawn region by hand. -/
theorem ds_loc {o : Oper} {rd wr : Locs} {v : AV} (hw : Is (awanted ops t o) (some true)) (hf : fits N o.dst = true) (hm : mayWrite o.op = false → wr = []) (hrd : ∀ p ∈ rd, hp F L p.1 = some p.2) (hwr : ∀ p ∈ wr, p.1 ∈ rd.map (·.1)) (HC : OpLoc P o t ⟨true, rd, wr, v⟩)
    (H : DS P N F ops us Q (dn ++ [⟨true, rd, wr, v⟩]) rest (aput t o.dst v) (wr ++ L) n) : DS P N F ops us Q dn (o :: rest) t L n := by
  have hlt : Fresh F L n → ∀ p ∈ wr, p.1 < n := fun hfr p hp => by
    obtain ⟨q, hq, e⟩ := List.mem_map.1 (hwr p hp)
    have h1 := hrd q hq
    by_cases h2 : p.1 < n
    · exact h2
    · rw [e, hfr p.1 (by omega)] at h1
      cases h1
  refine ds_cons (e := ⟨true, rd, wr, v⟩) (fun hfr => ⟨hf, hw, by simp, fun _ => ⟨hrd, fun p hp => ?_, HC⟩⟩) hm rfl rfl (fun hfr k hk => ?_) (Nat.le_refl _) (fun hfr k hk hmem => ?_) H
  · obtain ⟨q, hq, e⟩ := List.mem_map.1 (hwr p hp)
    exact .inl ⟨q, hq, e⟩
  · rw [← hp_append, hp_ne]
    · exact hfr k hk
    · intro p hp e
      have := hlt hfr p hp
      omega
  · simp only [wids] at hmem
    obtain ⟨q, hq, e⟩ := List.mem_map.1 hmem
    have := hlt hfr q hq
    omega
end


/-- String: the bytes; the buffer may not be written any more, an empty row stands for it. -/
theorem string_spec (b d m : Nat) (p : AV) (u : ByteArray) (hbd : b ≠ d) (hpos : 0 < u.size) (hsm : u.size ≤ 1000000) :
    Does Tryd.prog 45 [.ptr b 0 0 0] [(b, bldB p (.own d m 0 u.size)), (d, .row m 5 1 (strR u))] [(d, .row (m + 1) 5 1 [])] (astr u) := by
  refine does_of Tryd.func45 rfl Tryd.ntmps45 (by simp) fun F n hF hn hn0 hrd => ?_
  have hid : F b = some (bldB p (.own d m 0 u.size)) := hrd _ (List.mem_cons_self ..)
  have hd : F d = some (.row m 5 1 (strR u)) := hrd _ (List.mem_cons_of_mem _ (List.mem_cons_self ..))
  have hdb : ¬ d = b := fun e => hbd e.symm
  refine sw_seq ?_
  refine sw_run (by simp; exact Is.mk _) ?_
  refine n_then ?_
  refine sw_seq ?_
  refine sw_draw (us := []) mixed (by kernel_rfl) (by kernel_rfl) ?_
  iterate 4 refine ds_op rfl (by simp [-getElem?_pos, List.getElem?_cons_zero, List.getElem?_cons_succ, hid, hd, hbd, hdb]; exact Is.mk _) ?_
  refine ds_loc (rd := [(d, .row m 5 1 (strR u))]) (wr := []) (v := .ptr d m 0 0) (by simp; exact Is.mk _) rfl (fun _ => rfl) (by simp [hp]; exact hd) (by simp) (loc_slice_data (x := .tmp 6) (len := u.size) rfl rfl rfl (by simp [aev, look, aput]) (by simp [Op.operands, Call.operands]) (by rw [strR_length]; exact hpos)) ?_
  iterate 5 refine ds_op rfl (by simp [-getElem?_pos, List.getElem?_cons_zero, List.getElem?_cons_succ, hid, hd, hbd, hdb]; exact Is.mk _) ?_
  refine ds_loc (rd := [(d, .row m 5 1 (strR u))]) (wr := [(d, .row (m + 1) 5 1 [])]) (v := astr u) (by simp; exact Is.mk _) rfl (fun h => by cases h) (by simp [hp]; exact hd) (by simp) (loc_unsafe_string (x := .tmp 7) (y := .tmp 12) rfl rfl rfl rfl (by simp [aev, look, aput]) (by simp [aev, look, aput]) (by simp [Op.operands, Call.operands]) (by simp [Op.operands, Call.operands]) uU8P cU8 hpos hsm) ?_
  refine ds_all (by simp; exact Is.mk _) (by simp [disAll]) ?_
  repeat' (first
    | (refine sw_seq ?_) | (refine sw_block ?_) | (refine sw_skip ?_) | (refine sw_ret ?_) | (refine sw_exit ?_)
    | (refine n_then ?_) | (refine r_then ?_) | (refine e_then ?_) | (refine n_block ?_) | (refine r_block ?_) | (refine e_block ?_) | (refine o_block rfl ?_)
    | (refine sw_run (by simp [-getElem?_pos, -List.reduceReplicate, List.getElem?_cons_zero, List.getElem?_cons_succ, ]; exact Is.mk _) ?_)
    | (refine sw_true (by simp [-getElem?_pos, -List.reduceReplicate, List.getElem?_cons_zero, List.getElem?_cons_succ, ]; exact Is.mk _) ?_) | (refine sw_false (by simp [-getElem?_pos, -List.reduceReplicate, List.getElem?_cons_zero, List.getElem?_cons_succ, ]; exact Is.mk _) ?_)
    | (refine sw_yes (by simp; exact Is.mk _) (by assumption) ?_)
    | (refine sw_no (by simp; exact Is.mk _) (by assumption) ?_)
    | (refine sw_if (by simp; exact Is.mk _) (fun _ => ?_) (fun _ => ?_)))
  exact end_does (r := astr u) (by simp; exact Is.mk _) (by simp [conv, convL]) (by simp [keptB, convB, convE, convL, conv]) (by simp [hd]) ⟨rfl, rfl⟩

end Go.AM
