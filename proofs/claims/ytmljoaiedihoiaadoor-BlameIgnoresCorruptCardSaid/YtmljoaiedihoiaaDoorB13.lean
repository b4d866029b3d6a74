/- strings.Builder. -/
import Derived.Test.YtmljoaiedihoiaaDoorB12
import Derived.Test.YtmljoaiedihoiaaDoorAm32
namespace Go.AM
set_option linter.unusedVariables false
set_option linter.unusedSimpArgs false
open Go Go.RowKit Go.Proofs

@[simp] theorem taBld : tAgg Tryd.prog 82 = some (true, 2) := by kernel_rfl
@[simp] theorem taBldP : tAgg Tryd.prog 79 = some (false, 1) := by kernel_rfl
@[simp] theorem tfBld0 : tField Tryd.prog 82 0 = some (0, false, 1) := by kernel_rfl
@[simp] theorem tfBld1 : tField Tryd.prog 82 1 = some (1, false, 1) := by kernel_rfl
@[simp] theorem tzBld : tZero Tryd.prog 82 = some [.pointer none, .slice none 0 0] := by kernel_rfl
@[simp] theorem tlStr : tLen Tryd.prog 9 = none := by kernel_rfl
@[simp] theorem tlBytes : tLen Tryd.prog 80 = none := by kernel_rfl
theorem uBldP : Tryd.prog.underlying 79 = some (.pointer 82) := by kernel_rfl
theorem uUns : Tryd.prog.underlying 109 = some .unsafePointer := by kernel_rfl
theorem cBld : Tryd.prog.cellsOf 82 = 2 := by kernel_rfl
theorem iBld' : (Tryd.prog.info? 82).any (fun j => j.size != 0) = true := by kernel_rfl
theorem iBld : ∃ j, Tryd.prog.info? 82 = some j ∧ j.size ≠ 0 := by
  have h := iBld'
  cases hi : Tryd.prog.info? 82 with
  | none => rw [hi] at h; cases h
  | some j => rw [hi] at h; exact ⟨j, rfl, by simpa using h⟩

abbrev bldB (p v : AV) : Blk := .row 0 82 2 [[p, v]]
abbrev nilp : AV := .p (.v (.pointer none))

section
variable {P : Program} {F : AHeap} {t : Slots} {L : Locs} {n : Nat}
/-- The end of a function that does and has no result. -/
theorem end_does_n {rs : List ResultVar} {R : AV → AHeap → Prop} {r : AV} {wr : Locs} (hr : Is (ares P t (hp F L) rs) (some r)) (hc : conv (fun id => hp F wr id ≠ none) noA r r) (hb : keptB F L wr wr) (hs : shed F wr L) (H : R r (hp F wr)) : send P F rs R .normal t L n :=
  end_normal hr (fun _ => weakL_cut (xs := [r]) (ys := [r]) (by simp only [convL]; exact ⟨hc, trivial⟩) hb hs) H
end

set_option maxHeartbeats 1000000 in
theorem copy_first (b d m len : Nat) (es : List (List AV)) : Does Tryd.prog 61 [.ptr b 0 0 0] [(b, bldB nilp (.own d m 0 len)), (d, .row m 5 1 es)] [(b, bldB (.ptr b 0 0 0) (.own d m 0 len))] (.tup []) := by
  refine does_of Tryd.func61 rfl Tryd.ntmps61 (by simp) fun F n hF hn hn0 hrd => ?_
  have hid : F b = some (bldB nilp (.own d m 0 len)) := hrd _ (List.mem_cons_self ..)
  have hd : F d = some (.row m 5 1 es) := hrd _ (List.mem_cons_of_mem _ (List.mem_cons_self ..))
  obtain ⟨j, i1, i2⟩ := iBld
  refine sw_seq ?_
  refine sw_ss ?_
  iterate 4 refine ss_op rfl (by simp [-getElem?_pos, List.getElem?_cons_zero, List.getElem?_cons_succ, hid]; exact Is.mk _) ?_
  refine ss_oprun (L' := []) (by simp; exact Is.mk _) rfl (op_nil_nil (x := .tmp 5) (y := .const (.pointer none)) rfl (by simp [aev, look]) (by simp [aev]) uBldP) (fun h => h) ?_
  refine ss_all (by simp [-getElem?_pos, -List.reduceReplicate, List.getElem?_cons_zero, List.getElem?_cons_succ, ]; exact Is.mk _) ?_
  refine n_then ?_
  refine sw_true (by simp; exact Is.mk _) ?_
  refine sw_ss ?_
  iterate 2 refine ss_op rfl (by simp [-getElem?_pos, List.getElem?_cons_zero, List.getElem?_cons_succ, hid]; exact Is.mk _) ?_
  refine ss_oprun (L' := []) (by simp; exact Is.mk _) rfl (op_to_unsafe (x := .tmp 8) (id := b) (ver := 0) rfl (by simp [aev, look]) uBldP uUns i1 i2 (by simp [hp]; exact hid) (by simp) (by omega)) (fun h => h) ?_
  refine ss_oprun (L' := []) (by simp; exact Is.mk _) rfl (op_noescape (x := .tmp 9) (f := 67) rfl rfl rfl (by simp [aev, look, aput]; rfl) Tryd.func67 (by kernel_rfl) (by kernel_rfl) (by kernel_rfl) (by kernel_rfl)) (fun h => h) ?_
  refine ss_oprun (L' := []) (by simp; exact Is.mk _) rfl (op_from_unsafe (x := .tmp 10) (id := b) (ver := 0) rfl (by simp [aev, look, aput]) uUns uBldP i1 cBld (by simp [hp]; exact hid) (by simp) (by omega)) (fun h => h) ?_
  refine ss_all (by simp [-getElem?_pos, -List.reduceReplicate, List.getElem?_cons_zero, List.getElem?_cons_succ, hid]; exact Is.mk _) ?_
  refine end_does_n (r := .tup []) (by simp; exact Is.mk _) (by simp [conv, convL]) ?_ (by simp) ⟨rfl, rfl⟩
  by_cases e : d = b
  · simp [keptB, convB, convE, convL, conv, e]
  · simp [keptB, convB, convE, convL, conv, e, hd]

set_option maxHeartbeats 1000000 in
theorem copy_again (b d m len : Nat) (es : List (List AV)) : Does Tryd.prog 61 [.ptr b 0 0 0] [(b, bldB (.ptr b 0 0 0) (.own d m 0 len)), (d, .row m 5 1 es)] [(b, bldB (.ptr b 0 0 0) (.own d m 0 len))] (.tup []) := by
  refine does_of Tryd.func61 rfl Tryd.ntmps61 (by simp) fun F n hF hn hn0 hrd => ?_
  have hid : F b = some (bldB (.ptr b 0 0 0) (.own d m 0 len)) := hrd _ (List.mem_cons_self ..)
  have hd : F d = some (.row m 5 1 es) := hrd _ (List.mem_cons_of_mem _ (List.mem_cons_self ..))
  obtain ⟨j, i1, i2⟩ := iBld
  refine sw_seq ?_
  refine sw_ss ?_
  iterate 4 refine ss_op rfl (by simp [-getElem?_pos, List.getElem?_cons_zero, List.getElem?_cons_succ, hid]; exact Is.mk _) ?_
  refine ss_oprun (L' := []) (by simp; exact Is.mk _) rfl (op_ptr_nil (x := .tmp 5) (y := .const (.pointer none)) (id := b) (ver := 0) (i := 0) (j := 0) rfl (by simp [aev, look]) (by simp [aev]) uBldP) (fun h => h) ?_
  refine ss_all (by simp [-getElem?_pos, -List.reduceReplicate, List.getElem?_cons_zero, List.getElem?_cons_succ, ]; exact Is.mk _) ?_
  refine n_then ?_
  refine sw_false (by simp; exact Is.mk _) ?_
  refine sw_seq ?_
  refine sw_ss ?_
  iterate 5 refine ss_op rfl (by simp [-getElem?_pos, List.getElem?_cons_zero, List.getElem?_cons_succ, hid]; exact Is.mk _) ?_
  refine ss_oprun (L' := []) (by simp; exact Is.mk _) rfl (op_ptr_same (x := .tmp 17) (y := .tmp 18) (id := b) (ver := 0) (i := 0) (j := 0) rfl (by simp [aev, look, aput]) (by simp [aev, look, aput]) uBldP i1) (fun h => h) ?_
  refine ss_all (by simp [-getElem?_pos, -List.reduceReplicate, List.getElem?_cons_zero, List.getElem?_cons_succ, ]; exact Is.mk _) ?_
  refine n_then ?_
  refine sw_false (by simp; exact Is.mk _) ?_
  refine sw_skip ?_
  refine end_does_n (r := .tup []) (by simp; exact Is.mk _) (by simp [conv, convL]) ?_ (by simp) ⟨rfl, rfl⟩
  by_cases e : d = b
  · simp [keptB, convB, convE, convL, conv, e, hid]
  · simp [keptB, convB, convE, convL, conv, e, hd, hid]

theorem uBytes : Tryd.prog.underlying 80 = some (.slice 5) := by kernel_rfl
theorem uStr : Tryd.prog.underlying 9 = some .string := by kernel_rfl
def isU8 (i : Option TypeInfo) : Bool := match i with
  | some j => (match j.zero with | some (.int .u8 n) => n == 0 | _ => false) && j.size == 1 && j.bytes == 1
  | none => false
theorem isU8_of {i : Option TypeInfo} (h : isU8 i = true) : ∃ j, i = some j ∧ j.zero = some (.int .u8 0) ∧ j.size = 1 ∧ j.bytes = 1 := by
  unfold isU8 at h
  split at h
  · rename_i j
    simp only [Bool.and_eq_true, beq_iff_eq] at h
    obtain ⟨⟨h1, h2⟩, h3⟩ := h
    split at h1
    · rename_i n hz
      simp only [beq_iff_eq] at h1
      subst h1
      exact ⟨j, rfl, hz, h2, h3⟩
    · cases h1
  · cases h
theorem iU8 : ∃ j, Tryd.prog.info? 5 = some j ∧ j.zero = some (.int .u8 0) ∧ j.size = 1 ∧ j.bytes = 1 := isU8_of (by kernel_rfl)

theorem convE_strR {D : Nat → Prop} (s : ByteArray) : convE D noA (strR s) (strR s) := by
  unfold strR
  generalize s.data.toList = l
  induction l with
  | nil => simp [convE]
  | cons b l ih => simp only [List.map_cons, convE]; exact ⟨by simp [convL, conv], ih⟩

/-- WriteString: the bytes at the end. -/
theorem write_spec (b d m : Nat) (p : AV) (u s : ByteArray) (hp' : p = nilp ∨ p = .ptr b 0 0 0) (hbd : b ≠ d) (hsz : u.size + s.size ≤ 1000000) :
    Does Tryd.prog 42 [.ptr b 0 0 0, astr s] [(b, bldB p (.own d m 0 u.size)), (d, .row m 5 1 (strR u))]
      [(b, bldB (.ptr b 0 0 0) (.own d (m + 1) 0 (u ++ s).size)), (d, .row (m + 1) 5 1 (strR (u ++ s)))] (.tup [ai s.size, .p (.v .nilIface)]) := by
  refine does_of Tryd.func42 rfl Tryd.ntmps42 (by simp) fun F n hF hn hn0 hrd => ?_
  have hid : F b = some (bldB p (.own d m 0 u.size)) := hrd _ (List.mem_cons_self ..)
  have hd : F d = some (.row m 5 1 (strR u)) := hrd _ (List.mem_cons_of_mem _ (List.mem_cons_self ..))
  have hcc : Does Tryd.prog 61 [.ptr b 0 0 0] [(b, bldB p (.own d m 0 u.size)), (d, .row m 5 1 (strR u))] [(b, bldB (.ptr b 0 0 0) (.own d m 0 u.size))] (.tup []) := by
    rcases hp' with rfl | rfl
    · exact copy_first b d m u.size (strR u)
    · exact copy_again b d m u.size (strR u)
  obtain ⟨ju, u1, u2, u3, u4⟩ := iU8
  have hdb : ¬ d = b := fun e => hbd e.symm
  repeat' (first
    | (refine sw_seq ?_) | (refine sw_block ?_) | (refine sw_skip ?_)
    | (refine n_then ?_) | (refine r_then ?_) | (refine e_then ?_) | (refine n_block ?_) | (refine r_block ?_) | (refine e_block ?_) | (refine o_block rfl ?_)
    | (refine sw_run (by simp [-getElem?_pos, -List.reduceReplicate, List.getElem?_cons_zero, List.getElem?_cons_succ, ]; exact Is.mk _) ?_) | fail)
  refine sw_ss ?_
  repeat (refine ss_op rfl (by simp [-getElem?_pos, -List.reduceReplicate, List.getElem?_cons_zero, List.getElem?_cons_succ, hid, hd]; exact Is.mk _) ?_)
  refine ss_does rfl (by simp [-getElem?_pos, -List.reduceReplicate, List.getElem?_cons_zero, List.getElem?_cons_succ, hid, hd]; exact Is.mk _) rfl (by simp [-getElem?_pos, -List.reduceReplicate, List.getElem?_cons_zero, List.getElem?_cons_succ, hid, hd]; exact Is.mk _) (by kernel_rfl) (hcc) (by simp [-getElem?_pos, -List.reduceReplicate, List.getElem?_cons_zero, List.getElem?_cons_succ, hid, hd]) (by simp [-getElem?_pos, -List.reduceReplicate, List.getElem?_cons_zero, List.getElem?_cons_succ]) ?_
  refine ss_all (by simp [-getElem?_pos, -List.reduceReplicate, List.getElem?_cons_zero, List.getElem?_cons_succ, ]; exact Is.mk _) ?_
  repeat' (first
    | (refine sw_seq ?_) | (refine sw_block ?_) | (refine sw_skip ?_)
    | (refine n_then ?_) | (refine r_then ?_) | (refine e_then ?_) | (refine n_block ?_) | (refine r_block ?_) | (refine e_block ?_) | (refine o_block rfl ?_)
    | (refine sw_run (by simp [-getElem?_pos, -List.reduceReplicate, List.getElem?_cons_zero, List.getElem?_cons_succ, ]; exact Is.mk _) ?_) | fail)
  refine sw_ss ?_
  iterate 6 refine ss_op rfl (by simp [-getElem?_pos, List.getElem?_cons_zero, List.getElem?_cons_succ, hid, hd, hbd, hdb]; exact Is.mk _) ?_
  refine ss_oprun (L' := [(d, .row (m + 1) 5 1 (strR (u ++ s))), (b, bldB (.ptr b 0 0 0) (.own d m 0 u.size))]) (n' := n) (by simp; exact Is.mk _) rfl
    (op_append_bytes (x := .tmp 12) (y := .tmp 13) (id := d) (ver := m) (u := u) (s := s) rfl rfl rfl rfl (by simp [aev, look, aput]) (by simp [aev, look, aput]) uBytes uStr u1 u2 u3 u4 (by simp [hp, hdb]; exact hd) hsz) ?_ ?_
  · intro h k hk
    by_cases e : k = d
    · subst e
      have := hF k hk
      simp only [hp] at this
      rw [hd] at this
      cases this
    · have := h k hk
      simp only [hp] at this ⊢
      rw [if_neg e]; exact this
  · refine ss_all (by simp [-getElem?_pos, -List.reduceReplicate, List.getElem?_cons_zero, List.getElem?_cons_succ, hid, hd, hbd, hdb]; exact Is.mk _) ?_
    repeat' (first
      | (refine sw_seq ?_) | (refine sw_block ?_) | (refine sw_skip ?_) | (refine sw_ret ?_) | (refine sw_exit ?_)
      | (refine n_then ?_) | (refine r_then ?_) | (refine e_then ?_) | (refine n_block ?_) | (refine r_block ?_) | (refine e_block ?_) | (refine o_block rfl ?_)
      | (refine sw_run (by simp [-getElem?_pos, -List.reduceReplicate, List.getElem?_cons_zero, List.getElem?_cons_succ, ]; exact Is.mk _) ?_)
      | (refine sw_true (by simp [-getElem?_pos, -List.reduceReplicate, List.getElem?_cons_zero, List.getElem?_cons_succ, ]; exact Is.mk _) ?_) | (refine sw_false (by simp [-getElem?_pos, -List.reduceReplicate, List.getElem?_cons_zero, List.getElem?_cons_succ, ]; exact Is.mk _) ?_)
      | (refine sw_yes (by simp; exact Is.mk _) (by assumption) ?_)
      | (refine sw_no (by simp; exact Is.mk _) (by assumption) ?_)
      | (refine sw_if (by simp; exact Is.mk _) (fun _ => ?_) (fun _ => ?_)))
    exact end_does (r := .tup [ai s.size, .p (.v .nilIface)]) (by simp; exact Is.mk _) (by simp [conv, convL]) (by simp [keptB, convB, convE, convL, conv, hid, hd, hbd, hdb, convE_strR]) (by simp [hid, hd, hbd, hdb]) ⟨rfl, rfl⟩

end Go.AM
