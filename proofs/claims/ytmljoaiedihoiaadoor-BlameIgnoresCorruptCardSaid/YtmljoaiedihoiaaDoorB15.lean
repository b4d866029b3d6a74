/- blame.Format. -/
import Derived.Test.YtmljoaiedihoiaaDoorB14
namespace Go.AM
set_option linter.unusedVariables false
set_option linter.unusedSimpArgs false
open Go Go.RowKit Go.Proofs

/-! ### The plain law -/

theorem ba_ext {a b : ByteArray} (h : a.data.toList = b.data.toList) : a = b := by
  obtain ⟨⟨a⟩⟩ := a
  obtain ⟨⟨b⟩⟩ := b
  simp only at h
  rw [h]
theorem ba_assoc (a b c : ByteArray) : a ++ b ++ c = a ++ (b ++ c) := by
  apply ba_ext
  simp only [ByteArray.toList_data_append, List.append_assoc]
abbrev sNone : ByteArray := ⟨#[]⟩
theorem ba_nil (a : ByteArray) : sNone ++ a = a := by
  apply ba_ext
  rw [ByteArray.toList_data_append]; rfl

def contB (u ah : ByteArray) : List Bool → Int → ByteArray
  | [], _ => u
  | b :: r, k => if b then contB (u ++ (ah ++ sSp ++ decI k)) sNone r (k + 1) else contB u ah r (k + 1)
theorem contB_none : ∀ {l : List Bool} {k : Int} {u : ByteArray}, contB u sNone l k = bySep u (trues l k)
  | [], _, _ => rfl
  | b :: r, k, u => by
    rw [contB, trues]
    cases b
    · simp only [Bool.false_eq_true, if_false]; exact contB_none
    · simp only [if_true]
      rw [contB_none, bySep, ba_nil, ba_assoc]
theorem contB_seen : ∀ {l : List Bool} {k : Int} {u : ByteArray}, contB u sSeen l k = bySep (if 0 < (trues l k).length then u ++ sSeen else u) (trues l k)
  | [], _, _ => rfl
  | b :: r, k, u => by
    rw [contB, trues]
    cases b
    · simp only [Bool.false_eq_true, if_false]; exact contB_seen
    · simp only [if_true, List.length_cons]
      rw [contB_none, bySep, if_pos (Nat.succ_pos _), ba_assoc, ba_assoc, ba_assoc]

theorem contB_line (w : Scen) (r : Res) (s : ByteArray) {i : Int} (h1 : 1 ≤ i) (h2 : i ≤ w.n) (h13 : w.n ≤ 13) : contB (lineA w r s i) sSeen (rowB w r i.toNat) 0 ++ sNl = lineC w r s i := by
  have e : ((i.toNat : Nat) : Int) = i := Int.toNat_of_nonneg (by omega)
  rw [contB_seen, trues_seen w r (by omega) (by omega) h13, e]
  rfl

theorem rowB_bits (w : Scen) (r : Res) (a : Nat) : ((rbits (byB w r)).drop (a * 14)).take 14 = rbits (rowB w r a) := by
  unfold rowB rbits
  rw [List.map_take, List.map_drop]

theorem contB_size : ∀ {l : List Bool} {k : Int} {u ah : ByteArray}, u.size ≤ (contB u ah l k).size
  | [], _, _, _ => Nat.le_refl _
  | b :: r, k, u, ah => by
    rw [contB]
    cases b
    · simp only [Bool.false_eq_true, if_false]; exact contB_size
    · simp only [if_true]
      refine Nat.le_trans ?_ contB_size
      rw [ByteArray.size_append]; omega

/-- The heap of Format. -/
abbrev fmtH (n : Nat) (w : Scen) (r : Res) (u : ByteArray) (m : Nat) (p : AV) : Locs := (n + 4, bldB p (.own (n + 5) m 0 u.size)) :: (n + 5, .row m 5 1 (strR u)) :: lookH n w r (outB w r) (byB w r)

set_option maxHeartbeats 8000000 in
theorem format_spec (w : Scen) (r : Res) (hbad : Small w.bad.length) (hin : ∀ x ∈ w.bad, 0 ≤ x ∧ x < 14) (h0 : 0 ≤ w.n) (h13 : w.n ≤ 13) (hdet : ∀ x ∈ r.det, Small x.length) (hdl : Small r.det.length) (hdi : Small r.dis.length) :
    Pure Tryd.prog 21 [scenA w, resA r] (astr (fmtS w r)) := by
  refine pure_of Tryd.func21 rfl Tryd.ntmps21 (by simp) fun F n hF hn hn0 => ?_
  have ol := outB_len w r
  have t1 := take_bits' ol
  have t2 := drop_bits' ol
  have bl := byB_len w r
  have t3 := take_bits' bl
  have t4 := drop_bits' bl
  have hdl2 := det_len w r h13
  have hds : Small (detL w r).length := Small.mk (by omega)
  repeat' (first
    | (refine sw_seq ?_) | (refine sw_block ?_) | (refine sw_skip ?_) | (refine sw_ret ?_) | (refine sw_exit ?_)
    | (refine n_then ?_) | (refine r_then ?_) | (refine e_then ?_) | (refine n_block ?_) | (refine r_block ?_) | (refine e_block ?_) | (refine o_block rfl ?_)
    | (refine sw_run (by simp [-getElem?_pos, -List.reduceReplicate, List.getElem?_cons_zero, List.getElem?_cons_succ, ]; exact Is.mk _) ?_)
    | (refine sw_true (by simp [-getElem?_pos, -List.reduceReplicate, List.getElem?_cons_zero, List.getElem?_cons_succ, ]; exact Is.mk _) ?_) | (refine sw_false (by simp [-getElem?_pos, -List.reduceReplicate, List.getElem?_cons_zero, List.getElem?_cons_succ, ]; exact Is.mk _) ?_)
    | (refine sw_yes (by simp; exact Is.mk _) (by assumption) ?_)
    | (refine sw_no (by simp; exact Is.mk _) (by assumption) ?_)
    | (refine sw_if (by simp; exact Is.mk _) (fun _ => ?_) (fun _ => ?_)))
  refine sw_ss ?_
  repeat (refine ss_op rfl (by simp [-getElem?_pos, -List.reduceReplicate, List.getElem?_cons_zero, List.getElem?_cons_succ, ]; exact Is.mk _) ?_)
  refine ss_pure rfl rfl rfl (by simp [-getElem?_pos, -List.reduceReplicate, List.getElem?_cons_zero, List.getElem?_cons_succ]; exact Is.mk _) (by kernel_rfl) (look_spec w r hbad hin h0 h13 hdet hdl hdi) ?_
  refine ss_all (by simp [-getElem?_pos, -List.reduceReplicate, List.getElem?_cons_zero, List.getElem?_cons_succ, ol, t1, t2, bl, t3, t4]; exact Is.mk _) ?_
  refine n_then ?_
  refine sw_weak (t' := [(2, .ptr n 0 0 0), (3, .ptr (n + 1) 0 0 0), (4, astr sNone), (5, .ptr (n + 2) 0 0 0), (6, .ptr (n + 3) 0 0 0)]) (L' := lookH n w r (outB w r) (byB w r)) (n' := n + 4) (weak_cut_hp (by simp) (by simp [-List.reduceReplicate, Nat.add_assoc, convL_bits]) (by simp [-List.reduceReplicate, Nat.add_assoc])) (fresh_of hF (by omega) (by simp)) ?_
  repeat' (first
    | (refine sw_seq ?_) | (refine sw_block ?_) | (refine sw_skip ?_) | (refine sw_ret ?_) | (refine sw_exit ?_)
    | (refine n_then ?_) | (refine r_then ?_) | (refine e_then ?_) | (refine n_block ?_) | (refine r_block ?_) | (refine e_block ?_) | (refine o_block rfl ?_)
    | (refine sw_run (by simp [-getElem?_pos, -List.reduceReplicate, List.getElem?_cons_zero, List.getElem?_cons_succ, ]; exact Is.mk _) ?_)
    | (refine sw_true (by simp [-getElem?_pos, -List.reduceReplicate, List.getElem?_cons_zero, List.getElem?_cons_succ, ]; exact Is.mk _) ?_) | (refine sw_false (by simp [-getElem?_pos, -List.reduceReplicate, List.getElem?_cons_zero, List.getElem?_cons_succ, ]; exact Is.mk _) ?_)
    | (refine sw_yes (by simp; exact Is.mk _) (by assumption) ?_)
    | (refine sw_no (by simp; exact Is.mk _) (by assumption) ?_)
    | (refine sw_if (by simp; exact Is.mk _) (fun _ => ?_) (fun _ => ?_)))
  refine sw_ss ?_
  repeat (refine ss_op rfl (by simp [-getElem?_pos, -List.reduceReplicate, List.getElem?_cons_zero, List.getElem?_cons_succ, ]; exact Is.mk _) ?_)
  refine ss_pure rfl rfl rfl (by simp [-getElem?_pos, -List.reduceReplicate, List.getElem?_cons_zero, List.getElem?_cons_succ]; exact Is.mk _) (by kernel_rfl) (det_spec w r hbad hin h0 h13 hdet hdl hdi) ?_
  refine ss_all (by simp [-getElem?_pos, -List.reduceReplicate, List.getElem?_cons_zero, List.getElem?_cons_succ, ]; exact Is.mk _) ?_
  repeat' (first
    | (refine sw_seq ?_) | (refine sw_block ?_) | (refine sw_skip ?_) | (refine sw_ret ?_) | (refine sw_exit ?_)
    | (refine n_then ?_) | (refine r_then ?_) | (refine e_then ?_) | (refine n_block ?_) | (refine r_block ?_) | (refine e_block ?_) | (refine o_block rfl ?_)
    | (refine sw_run (by simp [-getElem?_pos, -List.reduceReplicate, List.getElem?_cons_zero, List.getElem?_cons_succ, ]; exact Is.mk _) ?_)
    | (refine sw_true (by simp [-getElem?_pos, -List.reduceReplicate, List.getElem?_cons_zero, List.getElem?_cons_succ, ]; exact Is.mk _) ?_) | (refine sw_false (by simp [-getElem?_pos, -List.reduceReplicate, List.getElem?_cons_zero, List.getElem?_cons_succ, ]; exact Is.mk _) ?_)
    | (refine sw_yes (by simp; exact Is.mk _) (by assumption) ?_)
    | (refine sw_no (by simp; exact Is.mk _) (by assumption) ?_)
    | (refine sw_if (by simp; exact Is.mk _) (fun _ => ?_) (fun _ => ?_)))
  refine sw_loopI (α := Nat × ByteArray × Nat × AV) (fun x => [(2, .ptr n 0 0 0), (3, .ptr (n + 1) 0 0 0), (4, astr sNone), (5, .ptr (n + 2) 0 0 0), (6, .ptr (n + 3) 0 0 0), (7, .ptr (n + 4) 0 0 0), (21, .p (.sl 1 (ints (detL w r)))), (22, ai (detL w r).length), (23, ai x.1)])
    (fun x => fmtH n w r x.2.1 x.2.2.1 x.2.2.2) (fun _ => n + 6)
    (fun x => x.1 ≤ (detL w r).length ∧ x.2.1.size ≤ 60 * x.1 ∧ (0 < x.1 → 0 < x.2.1.size) ∧ (x.2.2.2 = nilp ∨ x.2.2.2 = .ptr (n + 4) 0 0 0) ∧ fmtL w r x.2.1 ((detL w r).drop x.1) = fmtL w r sNone (detL w r))
    (fun x => (detL w r).length - x.1) (0, sNone, 0, nilp) ⟨Nat.zero_le _, Nat.le_refl _, by simp, .inl rfl, rfl⟩ ?_ ?_ ?_
  · intro _
    refine weak_adopt_hp (id := n + 5) (sz := 1) (e := 5) (by simp [Nat.add_assoc, hn]) (by simp [strR]) (by simp [conv, convT]) ?_ (by simp [Nat.add_assoc])
    simp [Nat.add_assoc, convB, convE, convL, conv, nilA, bldB, convL_bits]
    rfl
  · intro x
    exact fresh_of hF (by omega) (by simp)
  · rintro ⟨k, u, m, p⟩ ⟨hk, hu, hpos, hp', hR⟩
    simp only at hk hu hpos hp' hR ⊢
    by_cases hlt : k < (detL w r).length
    · obtain ⟨i, hi⟩ := get_lt hlt
      have hw := wrap_succ hlt hds
      have him := filt_mem.1 (List.mem_of_getElem? hi)
      have i1 : 1 ≤ i := him.1
      have i2 : i ≤ w.n := by have := him.2.1; omega
      have i3 : i ≤ 13 := by omega
      have i4 : 0 ≤ i := by omega
      have i5 : i < 14 := by omega
      have hu64 : IntKind.u64.wrap i = i := u64_in (by omega)
      have hg := outB_get w r i1 i2 h13
      have hrow := rowB_bits w r i.toNat
      have z1 := decI_size i
      have zA := sz_lineA w r u i
      have zC := sz_lineC w r u i h13
      have hrl := rowB_len w r (a := i.toNat) (by omega)
      rw [drop_cons hi] at hR
      simp only [fmtL] at hR
      repeat' (first
        | (refine sw_seq ?_) | (refine sw_block ?_) | (refine sw_skip ?_)
        | (refine n_then ?_) | (refine r_then ?_) | (refine e_then ?_) | (refine n_block ?_) | (refine r_block ?_) | (refine e_block ?_) | (refine o_block rfl ?_)
        | (refine sw_run (by simp [-getElem?_pos, -List.reduceReplicate, List.getElem?_cons_zero, List.getElem?_cons_succ, hlt, hi]; exact Is.mk _) ?_) | fail)
      first
        | (refine sw_true (by simp [-getElem?_pos, -List.reduceReplicate, List.getElem?_cons_zero, List.getElem?_cons_succ, hlt, hi]; exact Is.mk _) ?_) | (refine sw_false (by simp [-getElem?_pos, -List.reduceReplicate, List.getElem?_cons_zero, List.getElem?_cons_succ, hlt, hi]; exact Is.mk _) ?_)
        | (refine sw_yes (by simp; exact Is.mk _) (by assumption) ?_) | (refine sw_no (by simp; exact Is.mk _) (by assumption) ?_)
      repeat' (first
        | (refine sw_seq ?_) | (refine sw_block ?_) | (refine sw_skip ?_)
        | (refine n_then ?_) | (refine r_then ?_) | (refine e_then ?_) | (refine n_block ?_) | (refine r_block ?_) | (refine e_block ?_) | (refine o_block rfl ?_)
        | (refine sw_run (by simp [-getElem?_pos, -List.reduceReplicate, List.getElem?_cons_zero, List.getElem?_cons_succ, hlt, hi]; exact Is.mk _) ?_) | fail)
      refine sw_ss ?_
      repeat (refine ss_op rfl (by simp [-getElem?_pos, -List.reduceReplicate, List.getElem?_cons_zero, List.getElem?_cons_succ, hi, hu64]; exact Is.mk _) ?_)
      refine ss_pure rfl rfl rfl (by simp [-getElem?_pos, -List.reduceReplicate, List.getElem?_cons_zero, List.getElem?_cons_succ]; exact Is.mk _) (by kernel_rfl) (cdecI i i4 i3) ?_
      repeat (refine ss_op rfl (by simp [-getElem?_pos, -List.reduceReplicate, List.getElem?_cons_zero, List.getElem?_cons_succ, ]; exact Is.mk _) ?_)
      refine ss_does rfl (by simp [-getElem?_pos, -List.reduceReplicate, List.getElem?_cons_zero, List.getElem?_cons_succ, ]; exact Is.mk _) rfl (by simp [-getElem?_pos, -List.reduceReplicate, List.getElem?_cons_zero, List.getElem?_cons_succ, ]; exact Is.mk _) (by kernel_rfl) (write_spec (n + 4) (n + 5) m p u (decI i) hp' (by omega) (by omega)) (by simp [-getElem?_pos, -List.reduceReplicate, List.getElem?_cons_zero, List.getElem?_cons_succ, ]) (by simp [-getElem?_pos, -List.reduceReplicate, List.getElem?_cons_zero, List.getElem?_cons_succ]) ?_
      refine ss_all (by simp [-getElem?_pos, -List.reduceReplicate, List.getElem?_cons_zero, List.getElem?_cons_succ, ]; exact Is.mk _) ?_
      repeat' (first
        | (refine sw_seq ?_) | (refine sw_block ?_) | (refine sw_skip ?_)
        | (refine n_then ?_) | (refine r_then ?_) | (refine e_then ?_) | (refine n_block ?_) | (refine r_block ?_) | (refine e_block ?_) | (refine o_block rfl ?_)
        | (refine sw_run (by simp [-getElem?_pos, -List.reduceReplicate, List.getElem?_cons_zero, List.getElem?_cons_succ, hlt, hi, i4, i5, i3, ol, hg]; exact Is.mk _) ?_) | fail)
      refine sw_meet (α := Nat) (fun _ => [(2, .ptr n 0 0 0), (3, .ptr (n + 1) 0 0 0), (4, astr sNone), (5, .ptr (n + 2) 0 0 0), (6, .ptr (n + 3) 0 0 0), (7, .ptr (n + 4) 0 0 0), (9, ai i), (21, .p (.sl 1 (ints (detL w r)))), (22, ai (detL w r).length), (23, ai k)])
        (fun m => fmtH n w r (lineA w r u i) m (.ptr (n + 4) 0 0 0)) (fun _ => n + 6) (fun _ => True) (fun _ => fresh_of hF (by omega) (by simp)) ?_ ?_
      · cases hb : disq r.dis i
        · repeat' (first
            | (refine sw_seq ?_) | (refine sw_block ?_) | (refine sw_skip ?_) | (refine sw_ret ?_) | (refine sw_exit ?_)
            | (refine n_then ?_) | (refine r_then ?_) | (refine e_then ?_) | (refine n_block ?_) | (refine r_block ?_) | (refine e_block ?_) | (refine o_block rfl ?_)
            | (refine sw_run (by simp [-getElem?_pos, -List.reduceReplicate, List.getElem?_cons_zero, List.getElem?_cons_succ, hb]; exact Is.mk _) ?_)
            | (refine sw_true (by simp [-getElem?_pos, -List.reduceReplicate, List.getElem?_cons_zero, List.getElem?_cons_succ, hb]; exact Is.mk _) ?_) | (refine sw_false (by simp [-getElem?_pos, -List.reduceReplicate, List.getElem?_cons_zero, List.getElem?_cons_succ, hb]; exact Is.mk _) ?_)
            | (refine sw_yes (by simp; exact Is.mk _) (by assumption) ?_)
            | (refine sw_no (by simp; exact Is.mk _) (by assumption) ?_)
            | (refine sw_if (by simp; exact Is.mk _) (fun _ => ?_) (fun _ => ?_)))
          exact ⟨m + 1, trivial, weak_cut_hp (by simp) (by simp [lineA, hb, convL_bits, convE_strR]) (by simp [hn, hn0])⟩
        · repeat' (first
            | (refine sw_seq ?_) | (refine sw_block ?_) | (refine sw_skip ?_) | (refine sw_ret ?_) | (refine sw_exit ?_)
            | (refine n_then ?_) | (refine r_then ?_) | (refine e_then ?_) | (refine n_block ?_) | (refine r_block ?_) | (refine e_block ?_) | (refine o_block rfl ?_)
            | (refine sw_run (by simp [-getElem?_pos, -List.reduceReplicate, List.getElem?_cons_zero, List.getElem?_cons_succ, hb]; exact Is.mk _) ?_)
            | (refine sw_true (by simp [-getElem?_pos, -List.reduceReplicate, List.getElem?_cons_zero, List.getElem?_cons_succ, hb]; exact Is.mk _) ?_) | (refine sw_false (by simp [-getElem?_pos, -List.reduceReplicate, List.getElem?_cons_zero, List.getElem?_cons_succ, hb]; exact Is.mk _) ?_)
            | (refine sw_yes (by simp; exact Is.mk _) (by assumption) ?_)
            | (refine sw_no (by simp; exact Is.mk _) (by assumption) ?_)
            | (refine sw_if (by simp; exact Is.mk _) (fun _ => ?_) (fun _ => ?_)))
          refine sw_ss ?_
          repeat (refine ss_op rfl (by simp [-getElem?_pos, -List.reduceReplicate, List.getElem?_cons_zero, List.getElem?_cons_succ, ]; exact Is.mk _) ?_)
          refine ss_does rfl (by simp [-getElem?_pos, -List.reduceReplicate, List.getElem?_cons_zero, List.getElem?_cons_succ, ]; exact Is.mk _) rfl (by simp [-getElem?_pos, -List.reduceReplicate, List.getElem?_cons_zero, List.getElem?_cons_succ, ]; exact Is.mk _) (by kernel_rfl) (write_spec (n + 4) (n + 5) (m + 1) (.ptr (n + 4) 0 0 0) (u ++ decI i) sOut (.inr rfl) (by omega) (by rw [ByteArray.size_append]; show u.size + (decI i).size + 4 ≤ 1000000; omega)) (by simp [-getElem?_pos, -List.reduceReplicate, List.getElem?_cons_zero, List.getElem?_cons_succ, ]) (by simp [-getElem?_pos, -List.reduceReplicate, List.getElem?_cons_zero, List.getElem?_cons_succ]) ?_
          refine ss_all (by simp [-getElem?_pos, -List.reduceReplicate, List.getElem?_cons_zero, List.getElem?_cons_succ, ]; exact Is.mk _) ?_
          exact ⟨m + 2, trivial, weak_cut_hp (by simp) (by simp [lineA, hb, convL_bits, convE_strR]) (by simp [hn, hn0])⟩
      · intro m1 _
        have i6 : i.toNat * 14 ≤ 182 := by omega
        repeat' (first
          | (refine sw_seq ?_) | (refine sw_block ?_) | (refine sw_skip ?_)
          | (refine n_then ?_) | (refine r_then ?_) | (refine e_then ?_) | (refine n_block ?_) | (refine r_block ?_) | (refine e_block ?_) | (refine o_block rfl ?_)
          | (refine sw_run (by simp [-getElem?_pos, -List.reduceReplicate, List.getElem?_cons_zero, List.getElem?_cons_succ, i4, i5, i3, i6, bl, hrow]; exact Is.mk _) ?_) | fail)
        refine sw_loopI (α := Nat × ByteArray × ByteArray × Nat) (fun x => [(2, .ptr n 0 0 0), (3, .ptr (n + 1) 0 0 0), (4, astr sNone), (5, .ptr (n + 2) 0 0 0), (6, .ptr (n + 3) 0 0 0), (7, .ptr (n + 4) 0 0 0), (9, ai i), (10, astr x.2.2.1), (21, .p (.sl 1 (ints (detL w r)))), (22, ai (detL w r).length), (23, ai k), (37, .agg (rbits (rowB w r i.toNat))), (38, ai x.1)])
          (fun x => fmtH n w r x.2.1 x.2.2.2 (.ptr (n + 4) 0 0 0)) (fun _ => n + 6)
          (fun x => x.1 ≤ 14 ∧ x.2.1.size ≤ (lineA w r u i).size + 11 * x.1 ∧ x.2.2.1.size ≤ 8 ∧ contB x.2.1 x.2.2.1 ((rowB w r i.toNat).drop x.1) x.1 = contB (lineA w r u i) sSeen (rowB w r i.toNat) 0)
          (fun x => 14 - x.1) (0, lineA w r u i, sSeen, m1) ⟨Nat.zero_le _, by simp, Nat.le_refl _, rfl⟩ ?_ ?_ ?_
        · intro _
          exact weak_cut_hp (by simp [conv, convT, convL_bits]) (by simp [convL_bits, convE_strR]) (by simp [hn])
        · intro x
          exact fresh_of hF (by omega) (by simp)
        · rintro ⟨j, s, ah, m2⟩ ⟨hj, hs, hah, hR2⟩
          simp only at hj hs hah hR2 ⊢
          by_cases hjl : j < 14
          · obtain ⟨b, hb⟩ := get_lt (l := rowB w r i.toNat) (k := j) (by omega)
            have hwj : IntKind.i64.wrap ((j : Int) + 1) = ((j + 1 : Nat) : Int) := by rw [i64_in (by omega)]; simp
            have g1 : (j : Int) < 14 := by omega
            have g2 : IntKind.u64.wrap (j : Int) = j := u64_in (by omega)
            rw [drop_cons hb] at hR2
            simp only [contB] at hR2
            cases b
            · repeat' (first
                | (refine sw_seq ?_) | (refine sw_block ?_) | (refine sw_skip ?_) | (refine sw_ret ?_) | (refine sw_exit ?_)
                | (refine n_then ?_) | (refine r_then ?_) | (refine e_then ?_) | (refine n_block ?_) | (refine r_block ?_) | (refine e_block ?_) | (refine o_block rfl ?_)
                | (refine sw_run (by simp [-getElem?_pos, -List.reduceReplicate, List.getElem?_cons_zero, List.getElem?_cons_succ, hjl, g1, hb, hrl, hwj]; exact Is.mk _) ?_)
                | (refine sw_true (by simp [-getElem?_pos, -List.reduceReplicate, List.getElem?_cons_zero, List.getElem?_cons_succ, hjl, g1, hb, hrl, hwj]; exact Is.mk _) ?_) | (refine sw_false (by simp [-getElem?_pos, -List.reduceReplicate, List.getElem?_cons_zero, List.getElem?_cons_succ, hjl, g1, hb, hrl, hwj]; exact Is.mk _) ?_)
                | (refine sw_yes (by simp; exact Is.mk _) (by assumption) ?_)
                | (refine sw_no (by simp; exact Is.mk _) (by assumption) ?_)
                | (refine sw_if (by simp; exact Is.mk _) (fun _ => ?_) (fun _ => ?_)))
              exact ⟨(j + 1, s, ah, m2), ⟨by simp only; omega, by simp only; omega, hah, by simpa using hR2⟩, by simp only; omega, weak_cut_hp (by simp [convL_bits]) (by simp [convL_bits, convE_strR]) (by simp [hn, hn0])⟩
            · simp only [if_true] at hR2
              have j1 : (j : Int) ≤ 13 := by omega
              have zd := decI_size (j : Int)
              have z4 : ah.size + ByteArray.size sSp < 4294967296 := by
                show ah.size + 1 < 4294967296
                omega
              have z5 : ah.size + ByteArray.size sSp + (decI (j : Int)).size < 4294967296 := by
                show ah.size + 1 + (decI (j : Int)).size < 4294967296
                omega
              have z6 : (ah ++ sSp ++ decI (j : Int)).size ≤ 11 := by
                rw [ByteArray.size_append, sz_sp]; omega
              repeat' (first
                | (refine sw_seq ?_) | (refine sw_block ?_) | (refine sw_skip ?_) | (refine sw_ret ?_) | (refine sw_exit ?_)
                | (refine n_then ?_) | (refine r_then ?_) | (refine e_then ?_) | (refine n_block ?_) | (refine r_block ?_) | (refine e_block ?_) | (refine o_block rfl ?_)
                | (refine sw_run (by simp [-getElem?_pos, -List.reduceReplicate, List.getElem?_cons_zero, List.getElem?_cons_succ, hjl, g1, hb, hrl, hwj]; exact Is.mk _) ?_)
                | (refine sw_true (by simp [-getElem?_pos, -List.reduceReplicate, List.getElem?_cons_zero, List.getElem?_cons_succ, hjl, g1, hb, hrl, hwj]; exact Is.mk _) ?_) | (refine sw_false (by simp [-getElem?_pos, -List.reduceReplicate, List.getElem?_cons_zero, List.getElem?_cons_succ, hjl, g1, hb, hrl, hwj]; exact Is.mk _) ?_)
                | (refine sw_yes (by simp; exact Is.mk _) (by assumption) ?_)
                | (refine sw_no (by simp; exact Is.mk _) (by assumption) ?_)
                | (refine sw_if (by simp; exact Is.mk _) (fun _ => ?_) (fun _ => ?_)))
              refine sw_ss ?_
              repeat (refine ss_op rfl (by simp [-getElem?_pos, -List.reduceReplicate, List.getElem?_cons_zero, List.getElem?_cons_succ, g2, z4]; exact Is.mk _) ?_)
              refine ss_pure rfl rfl rfl (by simp [-getElem?_pos, -List.reduceReplicate, List.getElem?_cons_zero, List.getElem?_cons_succ]; exact Is.mk _) (by kernel_rfl) (cdecI j (by omega) j1) ?_
              repeat (refine ss_op rfl (by simp [-getElem?_pos, -List.reduceReplicate, List.getElem?_cons_zero, List.getElem?_cons_succ, z4, z5]; exact Is.mk _) ?_)
              repeat (refine ss_op rfl (by simp [-getElem?_pos, -List.reduceReplicate, List.getElem?_cons_zero, List.getElem?_cons_succ, ]; exact Is.mk _) ?_)
              refine ss_does rfl (by simp [-getElem?_pos, -List.reduceReplicate, List.getElem?_cons_zero, List.getElem?_cons_succ, ]; exact Is.mk _) rfl (by simp [-getElem?_pos, -List.reduceReplicate, List.getElem?_cons_zero, List.getElem?_cons_succ, ]; exact Is.mk _) (by kernel_rfl) (write_spec (n + 4) (n + 5) m2 (.ptr (n + 4) 0 0 0) s (ah ++ sSp ++ decI j) (.inr rfl) (by omega) (by omega)) (by simp [-getElem?_pos, -List.reduceReplicate, List.getElem?_cons_zero, List.getElem?_cons_succ, ]) (by simp [-getElem?_pos, -List.reduceReplicate, List.getElem?_cons_zero, List.getElem?_cons_succ]) ?_
              refine ss_all (by simp [-getElem?_pos, -List.reduceReplicate, List.getElem?_cons_zero, List.getElem?_cons_succ, ]; exact Is.mk _) ?_
              repeat' (first
                | (refine sw_seq ?_) | (refine sw_block ?_) | (refine sw_skip ?_) | (refine sw_ret ?_) | (refine sw_exit ?_)
                | (refine n_then ?_) | (refine r_then ?_) | (refine e_then ?_) | (refine n_block ?_) | (refine r_block ?_) | (refine e_block ?_) | (refine o_block rfl ?_)
                | (refine sw_run (by simp [-getElem?_pos, -List.reduceReplicate, List.getElem?_cons_zero, List.getElem?_cons_succ, hwj]; exact Is.mk _) ?_)
                | (refine sw_true (by simp [-getElem?_pos, -List.reduceReplicate, List.getElem?_cons_zero, List.getElem?_cons_succ, hwj]; exact Is.mk _) ?_) | (refine sw_false (by simp [-getElem?_pos, -List.reduceReplicate, List.getElem?_cons_zero, List.getElem?_cons_succ, hwj]; exact Is.mk _) ?_)
                | (refine sw_yes (by simp; exact Is.mk _) (by assumption) ?_)
                | (refine sw_no (by simp; exact Is.mk _) (by assumption) ?_)
                | (refine sw_if (by simp; exact Is.mk _) (fun _ => ?_) (fun _ => ?_)))
              exact ⟨(j + 1, s ++ (ah ++ sSp ++ decI j), sNone, m2 + 1), ⟨by simp only; omega, by simp only; rw [ByteArray.size_append]; omega, Nat.zero_le _, hR2⟩, by simp only; omega, weak_cut_hp (by simp [convL_bits]) (by simp [convL_bits, convE_strR]) (by simp [hn, hn0])⟩
          · obtain rfl : j = 14 := by omega
            rw [List.drop_eq_nil_of_le (by omega)] at hR2
            simp only [contB] at hR2
            subst hR2
            have hline := contB_line w r u i1 i2 h13
            have hz : (contB (lineA w r u i) sSeen (rowB w r i.toNat) 0 ++ sNl).size = (contB (lineA w r u i) sSeen (rowB w r i.toNat) 0).size + 1 := sz_nl _
            rw [hline] at hz
            repeat' (first
              | (refine sw_seq ?_) | (refine sw_block ?_) | (refine sw_skip ?_) | (refine sw_ret ?_) | (refine sw_exit ?_)
              | (refine n_then ?_) | (refine r_then ?_) | (refine e_then ?_) | (refine n_block ?_) | (refine r_block ?_) | (refine e_block ?_) | (refine o_block rfl ?_)
              | (refine sw_run (by simp [-getElem?_pos, -List.reduceReplicate, List.getElem?_cons_zero, List.getElem?_cons_succ, hjl]; exact Is.mk _) ?_)
              | (refine sw_true (by simp [-getElem?_pos, -List.reduceReplicate, List.getElem?_cons_zero, List.getElem?_cons_succ, hjl]; exact Is.mk _) ?_) | (refine sw_false (by simp [-getElem?_pos, -List.reduceReplicate, List.getElem?_cons_zero, List.getElem?_cons_succ, hjl]; exact Is.mk _) ?_)
              | (refine sw_yes (by simp; exact Is.mk _) (by assumption) ?_)
              | (refine sw_no (by simp; exact Is.mk _) (by assumption) ?_)
              | (refine sw_if (by simp; exact Is.mk _) (fun _ => ?_) (fun _ => ?_)))
            refine sw_ss ?_
            repeat (refine ss_op rfl (by simp [-getElem?_pos, -List.reduceReplicate, List.getElem?_cons_zero, List.getElem?_cons_succ, ]; exact Is.mk _) ?_)
            refine ss_does rfl (by simp [-getElem?_pos, -List.reduceReplicate, List.getElem?_cons_zero, List.getElem?_cons_succ, ]; exact Is.mk _) rfl (by simp [-getElem?_pos, -List.reduceReplicate, List.getElem?_cons_zero, List.getElem?_cons_succ, ]; exact Is.mk _) (by kernel_rfl) (write_spec (n + 4) (n + 5) m2 (.ptr (n + 4) 0 0 0) (contB (lineA w r u i) sSeen (rowB w r i.toNat) 0) sNl (.inr rfl) (by omega) (by show _ + 1 ≤ _; omega)) (by simp [-getElem?_pos, -List.reduceReplicate, List.getElem?_cons_zero, List.getElem?_cons_succ, ]) (by simp [-getElem?_pos, -List.reduceReplicate, List.getElem?_cons_zero, List.getElem?_cons_succ]) ?_
            rw [hline]
            refine ss_all (by simp [-getElem?_pos, -List.reduceReplicate, List.getElem?_cons_zero, List.getElem?_cons_succ, ]; exact Is.mk _) ?_
            repeat' (first
              | (refine sw_seq ?_) | (refine sw_block ?_) | (refine sw_skip ?_) | (refine sw_ret ?_) | (refine sw_exit ?_)
              | (refine n_then ?_) | (refine r_then ?_) | (refine e_then ?_) | (refine n_block ?_) | (refine r_block ?_) | (refine e_block ?_) | (refine o_block rfl ?_)
              | (refine sw_run (by simp [-getElem?_pos, -List.reduceReplicate, List.getElem?_cons_zero, List.getElem?_cons_succ, hw]; exact Is.mk _) ?_)
              | (refine sw_true (by simp [-getElem?_pos, -List.reduceReplicate, List.getElem?_cons_zero, List.getElem?_cons_succ, hw]; exact Is.mk _) ?_) | (refine sw_false (by simp [-getElem?_pos, -List.reduceReplicate, List.getElem?_cons_zero, List.getElem?_cons_succ, hw]; exact Is.mk _) ?_)
              | (refine sw_yes (by simp; exact Is.mk _) (by assumption) ?_)
              | (refine sw_no (by simp; exact Is.mk _) (by assumption) ?_)
              | (refine sw_if (by simp; exact Is.mk _) (fun _ => ?_) (fun _ => ?_)))
            exact ⟨(k + 1, lineC w r u i, m2 + 1, .ptr (n + 4) 0 0 0), ⟨by simp only; omega, by simp only; omega, fun _ => by simp only; omega, .inr rfl, hR⟩, by simp only; omega, weak_cut_hp (by simp) (by simp [convL_bits, convE_strR]) (by simp [hn, hn0])⟩
    · obtain rfl : k = (detL w r).length := by omega
      rw [List.drop_length] at hR
      simp only [fmtL] at hR
      repeat' (first
        | (refine sw_seq ?_) | (refine sw_block ?_) | (refine sw_skip ?_) | (refine sw_ret ?_) | (refine sw_exit ?_)
        | (refine n_then ?_) | (refine r_then ?_) | (refine e_then ?_) | (refine n_block ?_) | (refine r_block ?_) | (refine e_block ?_) | (refine o_block rfl ?_)
        | (refine sw_run (by simp [-getElem?_pos, -List.reduceReplicate, List.getElem?_cons_zero, List.getElem?_cons_succ, hlt]; exact Is.mk _) ?_)
        | (refine sw_true (by simp [-getElem?_pos, -List.reduceReplicate, List.getElem?_cons_zero, List.getElem?_cons_succ, hlt]; exact Is.mk _) ?_) | (refine sw_false (by simp [-getElem?_pos, -List.reduceReplicate, List.getElem?_cons_zero, List.getElem?_cons_succ, hlt]; exact Is.mk _) ?_)
        | (refine sw_yes (by simp; exact Is.mk _) (by assumption) ?_)
        | (refine sw_no (by simp; exact Is.mk _) (by assumption) ?_)
        | (refine sw_if (by simp; exact Is.mk _) (fun _ => ?_) (fun _ => ?_)))
      refine sw_ss ?_
      repeat (refine ss_op rfl (by simp [-getElem?_pos, -List.reduceReplicate, List.getElem?_cons_zero, List.getElem?_cons_succ, ]; exact Is.mk _) ?_)
      refine ss_does rfl (by simp [-getElem?_pos, -List.reduceReplicate, List.getElem?_cons_zero, List.getElem?_cons_succ, ]; exact Is.mk _) rfl (by simp [-getElem?_pos, -List.reduceReplicate, List.getElem?_cons_zero, List.getElem?_cons_succ, ]; exact Is.mk _) (by kernel_rfl) (len_spec (n + 4) (n + 5) m p u (by omega)) (by simp [-getElem?_pos, -List.reduceReplicate, List.getElem?_cons_zero, List.getElem?_cons_succ, ]) (by simp [-getElem?_pos, -List.reduceReplicate, List.getElem?_cons_zero, List.getElem?_cons_succ]) ?_
      by_cases hz : (detL w r).length = 0
      · have hu0 : (u.size : Int) = 0 := by omega
        have hu1 : u.size = 0 := by omega
        refine ss_all (by simp [-getElem?_pos, -List.reduceReplicate, List.getElem?_cons_zero, List.getElem?_cons_succ, hu0, hu1]; exact Is.mk _) ?_
        repeat' (first
          | (refine sw_seq ?_) | (refine sw_block ?_) | (refine sw_skip ?_) | (refine sw_ret ?_) | (refine sw_exit ?_)
          | (refine n_then ?_) | (refine r_then ?_) | (refine e_then ?_) | (refine n_block ?_) | (refine r_block ?_) | (refine e_block ?_) | (refine o_block rfl ?_)
          | (refine sw_run (by simp [-getElem?_pos, -List.reduceReplicate, List.getElem?_cons_zero, List.getElem?_cons_succ, hu0, hu1]; exact Is.mk _) ?_)
          | (refine sw_true (by simp [-getElem?_pos, -List.reduceReplicate, List.getElem?_cons_zero, List.getElem?_cons_succ, hu0, hu1]; exact Is.mk _) ?_) | (refine sw_false (by simp [-getElem?_pos, -List.reduceReplicate, List.getElem?_cons_zero, List.getElem?_cons_succ, hu0, hu1]; exact Is.mk _) ?_)
          | (refine sw_yes (by simp; exact Is.mk _) (by assumption) ?_)
          | (refine sw_no (by simp; exact Is.mk _) (by assumption) ?_)
          | (refine sw_if (by simp; exact Is.mk _) (fun _ => ?_) (fun _ => ?_)))
        exact end_val (by simp; exact Is.mk _) (by simp [hn0, hn]) ⟨rfl, by rw [fmtS, if_pos hz]⟩
      · have hu0 : ¬ (u.size : Int) = 0 := by have := hpos (by omega); omega
        have hu1 : ¬ u.size = 0 := by omega
        refine ss_all (by simp [-getElem?_pos, -List.reduceReplicate, List.getElem?_cons_zero, List.getElem?_cons_succ, hu0, hu1]; exact Is.mk _) ?_
        repeat' (first
          | (refine sw_seq ?_) | (refine sw_block ?_) | (refine sw_skip ?_) | (refine sw_ret ?_) | (refine sw_exit ?_)
          | (refine n_then ?_) | (refine r_then ?_) | (refine e_then ?_) | (refine n_block ?_) | (refine r_block ?_) | (refine e_block ?_) | (refine o_block rfl ?_)
          | (refine sw_run (by simp [-getElem?_pos, -List.reduceReplicate, List.getElem?_cons_zero, List.getElem?_cons_succ, hu0, hu1]; exact Is.mk _) ?_)
          | (refine sw_true (by simp [-getElem?_pos, -List.reduceReplicate, List.getElem?_cons_zero, List.getElem?_cons_succ, hu0, hu1]; exact Is.mk _) ?_) | (refine sw_false (by simp [-getElem?_pos, -List.reduceReplicate, List.getElem?_cons_zero, List.getElem?_cons_succ, hu0, hu1]; exact Is.mk _) ?_)
          | (refine sw_yes (by simp; exact Is.mk _) (by assumption) ?_)
          | (refine sw_no (by simp; exact Is.mk _) (by assumption) ?_)
          | (refine sw_if (by simp; exact Is.mk _) (fun _ => ?_) (fun _ => ?_)))
        refine sw_ss ?_
        repeat (refine ss_op rfl (by simp [-getElem?_pos, -List.reduceReplicate, List.getElem?_cons_zero, List.getElem?_cons_succ, ]; exact Is.mk _) ?_)
        refine ss_does rfl (by simp [-getElem?_pos, -List.reduceReplicate, List.getElem?_cons_zero, List.getElem?_cons_succ, ]; exact Is.mk _) rfl (by simp [-getElem?_pos, -List.reduceReplicate, List.getElem?_cons_zero, List.getElem?_cons_succ, ]; exact Is.mk _) (by kernel_rfl) (string_spec (n + 4) (n + 5) m p u (by omega) (by omega) (by omega)) (by simp [-getElem?_pos, -List.reduceReplicate, List.getElem?_cons_zero, List.getElem?_cons_succ, ]) (by simp [-getElem?_pos, -List.reduceReplicate, List.getElem?_cons_zero, List.getElem?_cons_succ]) ?_
        refine ss_all (by simp [-getElem?_pos, -List.reduceReplicate, List.getElem?_cons_zero, List.getElem?_cons_succ, ]; exact Is.mk _) ?_
        repeat' (first
          | (refine sw_seq ?_) | (refine sw_block ?_) | (refine sw_skip ?_) | (refine sw_ret ?_) | (refine sw_exit ?_)
          | (refine n_then ?_) | (refine r_then ?_) | (refine e_then ?_) | (refine n_block ?_) | (refine r_block ?_) | (refine e_block ?_) | (refine o_block rfl ?_)
          | (refine sw_run (by simp [-getElem?_pos, -List.reduceReplicate, List.getElem?_cons_zero, List.getElem?_cons_succ, ]; exact Is.mk _) ?_)
          | (refine sw_true (by simp [-getElem?_pos, -List.reduceReplicate, List.getElem?_cons_zero, List.getElem?_cons_succ, ]; exact Is.mk _) ?_) | (refine sw_false (by simp [-getElem?_pos, -List.reduceReplicate, List.getElem?_cons_zero, List.getElem?_cons_succ, ]; exact Is.mk _) ?_)
          | (refine sw_yes (by simp; exact Is.mk _) (by assumption) ?_)
          | (refine sw_no (by simp; exact Is.mk _) (by assumption) ?_)
          | (refine sw_if (by simp; exact Is.mk _) (fun _ => ?_) (fun _ => ?_)))
        exact end_val (by simp; exact Is.mk _) (by simp [hn0, hn]) ⟨rfl, by rw [fmtS, if_neg hz, hR]⟩

end Go.AM
