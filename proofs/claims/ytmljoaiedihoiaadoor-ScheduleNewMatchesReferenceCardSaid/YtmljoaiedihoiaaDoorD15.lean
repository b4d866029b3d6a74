/- The forms of gates; the depth of a circuit. -/
import Derived.Test.YtmljoaiedihoiaaDoorS14
import Derived.Test.YtmljoaiedihoiaaDoorS11
import Derived.Test.YtmljoaiedihoiaaDoorAm30
namespace Go.AM
set_option linter.unusedVariables false
set_option linter.unusedSimpArgs false
open Go Go.RowKit Go.Proofs

@[simp] theorem taForm : tAgg Tryd.prog 64 = some (true, 7) := by kernel_rfl
@[simp] theorem taForms : tAgg Tryd.prog 92 = some (true, 49) := by kernel_rfl
@[simp] theorem taStr : tAgg Tryd.prog 9 = some (false, 1) := by kernel_rfl
@[simp] theorem teForms : tElem Tryd.prog 92 = none := by kernel_rfl
@[simp] theorem trForms : tArr Tryd.prog 92 = some (7, 7, true) := by kernel_rfl
@[simp] theorem tzForm : tZero Tryd.prog 64 = some [.string ⟨#[]⟩, .int .i64 0, .bool false, .bool false, .bool false, .bool false, .bool false] := by kernel_rfl
@[simp] theorem tfForm1 : tField Tryd.prog 64 1 = some (1, false, 1) := by kernel_rfl
@[simp] theorem tfForm4 : tField Tryd.prog 64 4 = some (4, false, 1) := by kernel_rfl
@[simp] theorem tfForm5 : tField Tryd.prog 64 5 = some (5, false, 1) := by kernel_rfl
@[simp] theorem tfForm6 : tField Tryd.prog 64 6 = some (6, false, 1) := by kernel_rfl
@[simp] theorem teqBool : tEq Tryd.prog 4 = some (false, [(0, .b)]) := by kernel_rfl

def fcells : List AV := ((Glob.tab : List (Nat × List PV)).flatMap (·.2)).map AV.p
def fs (i : Nat) : ByteArray := match fcells[i * 7]? with | some (.p (.v (.string s))) => s | _ => ⟨#[]⟩
def fk (i : Nat) : Int := ([1, 1, 2, 3, 4, 5, 6] : List Int).getD i 0
def ff (i : Nat) : Bool := decide (i < 2)
def fc (i : Nat) : Bool := i == 2 || i == 5
def fa (i : Nat) : Bool := decide (3 ≤ i)
def fb (i : Nat) : Bool := i == 3 || i == 4 || i == 6
def fm (i : Nat) : Bool := i == 1
abbrev frow (i : Nat) : List AV := [.p (.v (.string (fs i))), ai (fk i), ab (ff i), ab (fc i), ab (fa i), ab (fb i), ab (fm i)]
theorem apart_forms {i : Nat} (h : i < 7) : apart fcells (i * 7) true 7 = some (.agg (frow i)) := by
  rcases i with _ | _ | _ | _ | _ | _ | _ | i
  iterate 7 rfl
  omega
def fmatch (g : Gate) (i : Nat) : Bool := decide (fk i = g.kind) && (fm i == (decide (g.kind = 1) && decide (g.k = 1)))

theorem convL_f {D : Nat → Prop} {A : AV → AV → Prop} : convL D A fcells fcells = True := eq_true (convL_ps _)

set_option maxHeartbeats 4000000 in
theorem of_spec (g : Gate) (i : Nat) (hi : i < 7) (hm : fmatch g i = true) (hn' : ∀ j, j < i → fmatch g j = false) : Pure Tryd.prog 32 [gateA g] (.tup [.agg (frow i), ab true]) := by
  refine pure_of Tryd.func32 rfl Tryd.ntmps32 (by simp) fun F n hF hn hn0 => ?_
  unfold gateA
  repeat' (first
    | (refine sw_seq ?_) | (refine sw_block ?_) | (refine sw_skip ?_) | (refine sw_ret ?_) | (refine sw_exit ?_)
    | (refine n_then ?_) | (refine r_then ?_) | (refine e_then ?_) | (refine n_block ?_) | (refine r_block ?_) | (refine e_block ?_) | (refine o_block rfl ?_)
    | (refine sw_run (by simp [-getElem?_pos, List.getElem?_cons_zero, List.getElem?_cons_succ, gfind]; exact Is.mk _) ?_)
    | (refine sw_true (by simp [-getElem?_pos, List.getElem?_cons_zero, List.getElem?_cons_succ, gfind]; exact Is.mk _) ?_) | (refine sw_false (by simp [-getElem?_pos, List.getElem?_cons_zero, List.getElem?_cons_succ, gfind]; exact Is.mk _) ?_)
    | (refine sw_yes (by simp; exact Is.mk _) (by assumption) ?_)
    | (refine sw_no (by simp; exact Is.mk _) (by assumption) ?_)
    | (refine sw_if (by simp; exact Is.mk _) (fun _ => ?_) (fun _ => ?_)))
  refine sw_loopI (α := Nat) (fun j => [(1, .ptr n 0 0 0), (2, .ptr (n + 1) 0 0 0), (6, .agg fcells), (7, ai j)]) (fun _ => [(n + 1, .row 0 64 7 [[.p (.v (.string ⟨#[]⟩)), ai 0, ab false, ab false, ab false, ab false, ab false]]), (n, gateB g)]) (fun _ => n + 2)
    (fun j => j ≤ i) (fun j => i - j) 0 (Nat.zero_le _) ?_ ?_ ?_
  · intro _
    refine weak_cut_hp ?_ (by simp) (by simp)
    unfold fcells
    simp [List.flatMap]
  · intro x
    exact fresh_of hF (by omega) (by simp)
  · intro j hj
    have hj7 : j < 7 := by omega
    have hj8 : (j : Int) < 7 := by omega
    have hap := apart_forms hj7
    have hw : IntKind.i64.wrap ((j : Int) + 1) = ((j + 1 : Nat) : Int) := by rw [i64_in (by omega)]; simp
    by_cases e : j = i
    · subst e
      cases hb : fm j <;> by_cases k1 : g.kind = 1 <;> by_cases k2 : g.k = 1
      all_goals try (exfalso; simp [fmatch, hb, k1, k2] at hm; done)
      all_goals
        have c1 : fk j = g.kind := by unfold fmatch at hm; simp only [Bool.and_eq_true, decide_eq_true_eq] at hm; exact hm.1
        repeat' (first
          | (refine sw_seq ?_) | (refine sw_block ?_) | (refine sw_skip ?_) | (refine sw_ret ?_) | (refine sw_exit ?_)
          | (refine n_then ?_) | (refine r_then ?_) | (refine e_then ?_) | (refine n_block ?_) | (refine r_block ?_) | (refine e_block ?_) | (refine o_block rfl ?_)
          | (refine sw_run (by simp [-getElem?_pos, List.getElem?_cons_zero, List.getElem?_cons_succ, -apart, hj7, hj8, hap, hw, c1, k1, k2, hb]; exact Is.mk _) ?_)
          | (refine sw_true (by simp [-getElem?_pos, List.getElem?_cons_zero, List.getElem?_cons_succ, -apart, hj7, hj8, hap, hw, c1, k1, k2, hb]; exact Is.mk _) ?_) | (refine sw_false (by simp [-getElem?_pos, List.getElem?_cons_zero, List.getElem?_cons_succ, -apart, hj7, hj8, hap, hw, c1, k1, k2, hb]; exact Is.mk _) ?_)
          | (refine sw_yes (by simp; exact Is.mk _) (by assumption) ?_)
          | (refine sw_no (by simp; exact Is.mk _) (by assumption) ?_)
          | (refine sw_if (by simp; exact Is.mk _) (fun _ => ?_) (fun _ => ?_)))
        exact end_ret (by simp; exact Is.mk _) (fun _ => weak_plain (by simp [conv, convL]) (by simp [hn, hn0])) ⟨rfl, by simp [c1, k1, hb]⟩
    · have hx := hn' j (by omega)
      by_cases c1 : fk j = g.kind
      · cases hb : fm j <;> by_cases k1 : g.kind = 1 <;> by_cases k2 : g.k = 1
        all_goals try (exfalso; simp [fmatch, hb, k1, k2, c1] at hx; done)
        all_goals
          repeat' (first
            | (refine sw_seq ?_) | (refine sw_block ?_) | (refine sw_skip ?_) | (refine sw_ret ?_) | (refine sw_exit ?_)
            | (refine n_then ?_) | (refine r_then ?_) | (refine e_then ?_) | (refine n_block ?_) | (refine r_block ?_) | (refine e_block ?_) | (refine o_block rfl ?_)
            | (refine sw_run (by simp [-getElem?_pos, List.getElem?_cons_zero, List.getElem?_cons_succ, -apart, hj7, hj8, hap, hw, c1, k1, k2, hb]; exact Is.mk _) ?_)
            | (refine sw_true (by simp [-getElem?_pos, List.getElem?_cons_zero, List.getElem?_cons_succ, -apart, hj7, hj8, hap, hw, c1, k1, k2, hb]; exact Is.mk _) ?_) | (refine sw_false (by simp [-getElem?_pos, List.getElem?_cons_zero, List.getElem?_cons_succ, -apart, hj7, hj8, hap, hw, c1, k1, k2, hb]; exact Is.mk _) ?_)
            | (refine sw_yes (by simp; exact Is.mk _) (by assumption) ?_)
            | (refine sw_no (by simp; exact Is.mk _) (by assumption) ?_)
            | (refine sw_if (by simp; exact Is.mk _) (fun _ => ?_) (fun _ => ?_)))
          exact ⟨j + 1, by omega, by omega, weak_cut_hp (by simp [convL_f]) (by simp) (by simp [hn, hn0])⟩
      · repeat' (first
          | (refine sw_seq ?_) | (refine sw_block ?_) | (refine sw_skip ?_) | (refine sw_ret ?_) | (refine sw_exit ?_)
          | (refine n_then ?_) | (refine r_then ?_) | (refine e_then ?_) | (refine n_block ?_) | (refine r_block ?_) | (refine e_block ?_) | (refine o_block rfl ?_)
          | (refine sw_run (by simp [-getElem?_pos, List.getElem?_cons_zero, List.getElem?_cons_succ, -apart, hj7, hj8, hap, hw, c1]; exact Is.mk _) ?_)
          | (refine sw_true (by simp [-getElem?_pos, List.getElem?_cons_zero, List.getElem?_cons_succ, -apart, hj7, hj8, hap, hw, c1]; exact Is.mk _) ?_) | (refine sw_false (by simp [-getElem?_pos, List.getElem?_cons_zero, List.getElem?_cons_succ, -apart, hj7, hj8, hap, hw, c1]; exact Is.mk _) ?_)
          | (refine sw_yes (by simp; exact Is.mk _) (by assumption) ?_)
          | (refine sw_no (by simp; exact Is.mk _) (by assumption) ?_)
          | (refine sw_if (by simp; exact Is.mk _) (fun _ => ?_) (fun _ => ?_)))
        exact ⟨j + 1, by omega, by omega, weak_cut_hp (by simp [convL_f]) (by simp) (by simp [hn, hn0])⟩

/-- The form's index of a gate of a known kind. -/
def fidx (g : Gate) : Nat := if g.kind = 1 then (if g.k = 1 then 1 else 0) else g.kind.toNat
theorem fidx_ok {g : Gate} (h : 1 ≤ g.kind ∧ g.kind ≤ 6) : fidx g < 7 ∧ fmatch g (fidx g) = true ∧ ∀ j, j < fidx g → fmatch g j = false := by
  by_cases k1 : g.kind = 1
  · by_cases k2 : g.k = 1
    · have e : fidx g = 1 := by simp [fidx, k1, k2]
      rw [e]
      refine ⟨by omega, by simp [fmatch, fk, fm, k1, k2], fun j hj => ?_⟩
      obtain rfl : j = 0 := by omega
      simp [fmatch, fk, fm, k1, k2]
    · have e : fidx g = 0 := by simp [fidx, k1, k2]
      rw [e]
      exact ⟨by omega, by simp [fmatch, fk, fm, k1, k2], fun j hj => by omega⟩
  · have e : fidx g = g.kind.toNat := by simp [fidx, k1]
    obtain ⟨m, hm⟩ : ∃ m : Nat, g.kind = m := ⟨g.kind.toNat, by omega⟩
    rw [e, hm, Int.toNat_natCast]
    have h2 : m = 2 ∨ m = 3 ∨ m = 4 ∨ m = 5 ∨ m = 6 := by omega
    refine ⟨by omega, ?_, fun j hj => ?_⟩
    · rcases h2 with rfl | rfl | rfl | rfl | rfl <;> simp [fmatch, fk, fm, hm]
    · have h3 : j = 0 ∨ j = 1 ∨ j = 2 ∨ j = 3 ∨ j = 4 ∨ j = 5 := by omega
      rcases h2 with rfl | rfl | rfl | rfl | rfl <;> rcases h3 with rfl | rfl | rfl | rfl | rfl | rfl <;> first | (exfalso; omega) | (simp [fmatch, fk, fm, hm])

theorem fa_idx {g : Gate} (h : 1 ≤ g.kind ∧ g.kind ≤ 6) : fa (fidx g) = decide (3 ≤ g.kind) ∧ fb (fidx g) = decide (g.kind = 3 ∨ g.kind = 4 ∨ g.kind = 6) := by
  by_cases k1 : g.kind = 1
  · by_cases k2 : g.k = 1
    · have e : fidx g = 1 := by simp [fidx, k1, k2]
      rw [e]; simp [fa, fb, k1]
    · have e : fidx g = 0 := by simp [fidx, k1, k2]
      rw [e]; simp [fa, fb, k1]
  · have e : fidx g = g.kind.toNat := by simp [fidx, k1]
    obtain ⟨m, hm⟩ : ∃ m : Nat, g.kind = m := ⟨g.kind.toNat, by omega⟩
    rw [e, hm, Int.toNat_natCast]
    have h2 : m = 2 ∨ m = 3 ∨ m = 4 ∨ m = 5 ∨ m = 6 := by omega
    rcases h2 with rfl | rfl | rfl | rfl | rfl <;> simp [fa, fb]

theorem small_kinds {p : Int} {gs : List Gate} {os : List Int} {m : Int} (h : smallC p gs os m = true) : ∀ (i : Nat) (g : Gate), gs[i]? = some g → 1 ≤ g.kind ∧ g.kind ≤ 6 := by
  simp only [smallC, circOk, Bool.and_eq_true, decide_eq_true_eq] at h
  obtain ⟨⟨_, _⟩, ⟨⟨⟨_, _⟩, _⟩, h3⟩, _⟩ := h
  intro i g hg
  have := gatesOk_get h3 hg
  unfold gateOk at this
  split at this
  · omega
  · split at this
    · omega
    · split at this
      · omega
      · split at this
        · omega
        · cases this

set_option maxHeartbeats 4000000 in
theorem cdepth_spec (p : Int) (gs : List Gate) (os : List Int) (hgs : Small gs.length) (hv : opsOk gs) (hk6 : ∀ (i : Nat) (g : Gate), gs[i]? = some g → 1 ≤ g.kind ∧ g.kind ≤ 6) :
    Pure Tryd.prog 12 [circA p gs os] (ai (mostFrom (dep gs) 0 gs)) := by
  refine pure_of Tryd.func12 rfl Tryd.ntmps12 (by simp) fun F n hF hn hn0 => ?_
  have hdl := dep_len hv hgs
  have hdall := most_all hv hgs
  have hsz := hgs.lt
  unfold circA
  repeat' (first
    | (refine sw_seq ?_) | (refine sw_block ?_) | (refine sw_skip ?_) | (refine sw_ret ?_) | (refine sw_exit ?_)
    | (refine n_then ?_) | (refine r_then ?_) | (refine e_then ?_) | (refine n_block ?_) | (refine r_block ?_) | (refine e_block ?_) | (refine o_block rfl ?_)
    | (refine sw_run (by simp [-getElem?_pos, List.getElem?_cons_zero, List.getElem?_cons_succ, hgs]; exact Is.mk _) ?_)
    | (refine sw_true (by simp [-getElem?_pos, List.getElem?_cons_zero, List.getElem?_cons_succ, hgs]; exact Is.mk _) ?_) | (refine sw_false (by simp [-getElem?_pos, List.getElem?_cons_zero, List.getElem?_cons_succ, hgs]; exact Is.mk _) ?_)
    | (refine sw_yes (by simp; exact Is.mk _) (by assumption) ?_)
    | (refine sw_no (by simp; exact Is.mk _) (by assumption) ?_)
    | (refine sw_if (by simp; exact Is.mk _) (fun _ => ?_) (fun _ => ?_)))
  refine sw_loopI (α := Nat × Int × List Int) (fun x => [(1, .ptr n 0 0 0), (3, .own (n + 1) 0 0 gs.length), (4, ai x.2.1), (14, gatesV gs), (15, ai gs.length), (16, ai x.1)]) (fun x => [(n + 1, .row 0 3 1 (rints x.2.2)), (n, circB p gs os)]) (fun _ => n + 2)
    (fun x => x.1 ≤ gs.length ∧ 0 ≤ x.2.1 ∧ max x.2.1 (mxL (fun x => x) ((dep gs).drop x.1)) = mxL (fun x => x) (dep gs) ∧ x.2.2.length = gs.length ∧ (∀ j, j < x.1 → x.2.2.getD j 0 = (dep gs).getD j 0) ∧ x.2.2.getD x.1 0 = 0 ∧ ∀ j, x.1 ≤ j → x.2.2.getD j 0 = 0)
    (fun x => gs.length - x.1) (0, 0, List.replicate gs.length 0) ⟨Nat.zero_le _, Int.le_refl _, by have := mxL_nonneg (fun x => x) (dep gs); simp only [List.drop_zero]; omega, by simp, fun j hj => by simp only at hj; omega, zeros_get _ _, fun j _ => zeros_get _ j⟩ ?_ ?_ ?_
  · intro _
    exact weak_cut_hp (by simp) (by simp [rints_zero]) (by simp)
  · intro x
    exact fresh_of hF (by omega) (by simp)
  · rintro ⟨k, m, o⟩ ⟨hk, hm0, hm, hol, hlo, hk0, hhi⟩
    simp only at hk hm0 hm hol hlo hk0 hhi ⊢
    by_cases hlt : k < gs.length
    · obtain ⟨g, hg⟩ := get_lt hlt
      have hgk := hk6 k g hg
      obtain ⟨f1, f2, f3⟩ := fidx_ok hgk
      obtain ⟨fa1, fb1⟩ := fa_idx hgk
      have hof := of_spec g (fidx g) f1 f2 f3
      have hw := wrap_succ hlt hgs
      have hdk := dep_eq hv hgs hg
      have hbd := dep_bd hv hgs hlt
      obtain ⟨dk, hdkv⟩ := get_lt (l := dep gs) (k := k) (by omega)
      have hdkD : (dep gs).getD k 0 = dk := by rw [List.getD_eq_getElem?_getD, hdkv]; rfl
      rw [drop_cons hdkv] at hm
      simp only [mxL] at hm
      rw [hdkD] at hdk hbd
      have hok : o[k]? = some 0 := by
        obtain ⟨v, hv⟩ := get_lt (l := o) (k := k) (by omega)
        rw [List.getD_eq_getElem?_getD, hv] at hk0
        rw [hv]; simp at hk0; rw [hk0]
      have hget : ∀ a : Nat, a < k → o[a]? = some ((dep gs).getD a 0) := fun a ha => by
        obtain ⟨v, hv⟩ := get_lt (l := o) (k := a) (by omega)
        have := hlo a ha
        rw [List.getD_eq_getElem?_getD, hv] at this
        rw [hv]; simp only [Option.getD_some] at this; rw [this]
      -- the state behind the round
      have fin : ∀ o' : List Int, o' = o.set k dk → o'.length = gs.length ∧ (∀ j, j < k + 1 → o'.getD j 0 = (dep gs).getD j 0) ∧ o'.getD (k + 1) 0 = 0 ∧ ∀ j, k + 1 ≤ j → o'.getD j 0 = 0 := by
        intro o' e
        subst e
        refine ⟨by simp [hol], fun j hj => ?_, by rw [getD_set, if_neg (by omega)]; exact hhi _ (by omega), fun j hj => by rw [getD_set, if_neg (by omega)]; exact hhi j (by omega)⟩
        rw [getD_set]
        split
        · rename_i e; rw [← e.1, hdkD]
        · rename_i e; exact hlo j (by omega)
      have hmax : ∀ m' : Int, m' = max m dk → 0 ≤ m' ∧ max m' (mxL (fun x => x) ((dep gs).drop (k + 1))) = mxL (fun x => x) (dep gs) := by intro m' e; omega
      obtain ⟨m', hm'⟩ : ∃ m', m' = max m dk := ⟨_, rfl⟩
      have hmm : (if m < dk then dk else m) = m' := by rw [hm']; split <;> omega
      obtain ⟨g1, g2⟩ := hmax m' hm'
      have hsm : ∀ x : Int, (((rints o).set k [.p (.v (.int .i64 x))]) = rints (o.set k x)) := fun x => rints_set o k x
      by_cases k5 : g.kind = 5
      · have hfa : fa (fidx g) = true := by rw [fa1]; simp [k5]
        have hfb : fb (fidx g) = false := by rw [fb1]; simp [k5]
        have hnm : namedL g = [g.a] := by unfold namedL; rw [if_neg (by omega), if_pos k5]
        have ha := hv k g hg g.a (by rw [hnm]; simp)
        obtain ⟨a, hA⟩ : ∃ a : Nat, g.a = a := ⟨g.a.toNat, by omega⟩
        have hak : a < k := by omega
        have hal : a < gs.length := by omega
        have hga := hget a hak
        have hDa := dep_bd hv hgs hal
        have h6 : ¬ g.kind = 6 := by omega
        rw [hnm, if_neg h6, hA] at hdk
        simp only [mxL, Int.toNat_natCast] at hdk
        have hda : (dep gs).getD a 0 = dk := by omega
        rw [hda] at hga
        repeat' (first
          | (refine sw_seq ?_) | (refine sw_block ?_) | (refine sw_skip ?_) | (refine sw_ret ?_) | (refine sw_exit ?_)
          | (refine n_then ?_) | (refine r_then ?_) | (refine e_then ?_) | (refine n_block ?_) | (refine r_block ?_) | (refine e_block ?_) | (refine o_block rfl ?_)
          | (refine sw_run (by simp [-getElem?_pos, List.getElem?_cons_zero, List.getElem?_cons_succ, hlt, hg, gateC]; exact Is.mk _) ?_)
          | (refine sw_true (by simp [-getElem?_pos, List.getElem?_cons_zero, List.getElem?_cons_succ, hlt, hg, gateC]; exact Is.mk _) ?_) | (refine sw_false (by simp [-getElem?_pos, List.getElem?_cons_zero, List.getElem?_cons_succ, hlt, hg, gateC]; exact Is.mk _) ?_)
          | (refine sw_yes (by simp; exact Is.mk _) (by assumption) ?_)
          | (refine sw_no (by simp; exact Is.mk _) (by assumption) ?_)
          | (refine sw_if (by simp; exact Is.mk _) (fun _ => ?_) (fun _ => ?_)))
        refine sw_ss ?_
        repeat (refine ss_op rfl (by simp [-getElem?_pos, List.getElem?_cons_zero, List.getElem?_cons_succ, ]; exact Is.mk _) ?_)
        refine ss_pure rfl rfl rfl (by simp [-getElem?_pos, List.getElem?_cons_zero, List.getElem?_cons_succ]; exact Is.mk _) (by kernel_rfl) (hof) ?_
        refine ss_all (by simp [-getElem?_pos, List.getElem?_cons_zero, List.getElem?_cons_succ, ]; exact Is.mk _) ?_
        repeat' (first
          | (refine sw_seq ?_) | (refine sw_block ?_) | (refine sw_skip ?_) | (refine sw_ret ?_) | (refine sw_exit ?_)
          | (refine n_then ?_) | (refine r_then ?_) | (refine e_then ?_) | (refine n_block ?_) | (refine r_block ?_) | (refine e_block ?_) | (refine o_block rfl ?_)
          | (refine sw_run (by simp [-getElem?_pos, List.getElem?_cons_zero, List.getElem?_cons_succ, hfa, hfb, h6, hA, hal, hga, hlt, hol, hok, List.getElem?_set, hmm, hw]; exact Is.mk _) ?_)
          | (refine sw_true (by simp [-getElem?_pos, List.getElem?_cons_zero, List.getElem?_cons_succ, hfa, hfb, h6, hA, hal, hga, hlt, hol, hok, List.getElem?_set, hmm, hw]; exact Is.mk _) ?_) | (refine sw_false (by simp [-getElem?_pos, List.getElem?_cons_zero, List.getElem?_cons_succ, hfa, hfb, h6, hA, hal, hga, hlt, hol, hok, List.getElem?_set, hmm, hw]; exact Is.mk _) ?_)
          | (refine sw_yes (by simp; exact Is.mk _) (by assumption) ?_)
          | (refine sw_no (by simp; exact Is.mk _) (by assumption) ?_)
          | (refine sw_if (by simp; exact Is.mk _) (fun _ => ?_) (fun _ => ?_)))
        obtain ⟨e1, e2, e3, e4⟩ := fin _ rfl
        exact ⟨(k + 1, m', o.set k dk), ⟨by simp only; omega, g1, g2, e1, e2, e3, e4⟩, by simp only; omega, weak_cut_hp (by simp) (by simp [hsm]) (by simp [hn, hn0])⟩
      · by_cases k346 : g.kind = 3 ∨ g.kind = 4 ∨ g.kind = 6
        · have hfa : fa (fidx g) = true := by rw [fa1]; simp; omega
          have hfb : fb (fidx g) = true := by rw [fb1]; simp [k346]
          have hnm : namedL g = [g.a, g.b] := by unfold namedL; rw [if_pos k346]
          have ha := hv k g hg g.a (by rw [hnm]; simp)
          have hb := hv k g hg g.b (by rw [hnm]; simp)
          obtain ⟨a, hA⟩ : ∃ a : Nat, g.a = a := ⟨g.a.toNat, by omega⟩
          obtain ⟨b, hB⟩ : ∃ b : Nat, g.b = b := ⟨g.b.toNat, by omega⟩
          have hak : a < k := by omega
          have hbk : b < k := by omega
          have hal : a < gs.length := by omega
          have hbl : b < gs.length := by omega
          have hga := hget a hak
          have hgb := hget b hbk
          have hkb : (k = b) = False := by simp; omega
          have hDa := dep_bd hv hgs hal
          have hDb := dep_bd hv hgs hbl
          rw [hnm, hA, hB] at hdk
          simp only [mxL, Int.toNat_natCast] at hdk
          generalize (dep gs).getD a 0 = x at hga hDa hdk
          generalize (dep gs).getD b 0 = y at hgb hDb hdk
          obtain ⟨v, hvv⟩ : ∃ v, v = max x y := ⟨_, rfl⟩
          have hxy : (if x < y then y else x) = v := by rw [hvv]; split <;> omega
          by_cases h6 : g.kind = 6
          · rw [if_pos h6] at hdk
            have hwv : IntKind.i64.wrap (v + 1) = dk := by rw [i64_in (by omega)]; omega
            repeat' (first
              | (refine sw_seq ?_) | (refine sw_block ?_) | (refine sw_skip ?_) | (refine sw_ret ?_) | (refine sw_exit ?_)
              | (refine n_then ?_) | (refine r_then ?_) | (refine e_then ?_) | (refine n_block ?_) | (refine r_block ?_) | (refine e_block ?_) | (refine o_block rfl ?_)
              | (refine sw_run (by simp [-getElem?_pos, List.getElem?_cons_zero, List.getElem?_cons_succ, hlt, hg, gateC]; exact Is.mk _) ?_)
              | (refine sw_true (by simp [-getElem?_pos, List.getElem?_cons_zero, List.getElem?_cons_succ, hlt, hg, gateC]; exact Is.mk _) ?_) | (refine sw_false (by simp [-getElem?_pos, List.getElem?_cons_zero, List.getElem?_cons_succ, hlt, hg, gateC]; exact Is.mk _) ?_)
              | (refine sw_yes (by simp; exact Is.mk _) (by assumption) ?_)
              | (refine sw_no (by simp; exact Is.mk _) (by assumption) ?_)
              | (refine sw_if (by simp; exact Is.mk _) (fun _ => ?_) (fun _ => ?_)))
            refine sw_ss ?_
            repeat (refine ss_op rfl (by simp [-getElem?_pos, List.getElem?_cons_zero, List.getElem?_cons_succ, ]; exact Is.mk _) ?_)
            refine ss_pure rfl rfl rfl (by simp [-getElem?_pos, List.getElem?_cons_zero, List.getElem?_cons_succ]; exact Is.mk _) (by kernel_rfl) (hof) ?_
            refine ss_all (by simp [-getElem?_pos, List.getElem?_cons_zero, List.getElem?_cons_succ, ]; exact Is.mk _) ?_
            repeat' (first
              | (refine sw_seq ?_) | (refine sw_block ?_) | (refine sw_skip ?_) | (refine sw_ret ?_) | (refine sw_exit ?_)
              | (refine n_then ?_) | (refine r_then ?_) | (refine e_then ?_) | (refine n_block ?_) | (refine r_block ?_) | (refine e_block ?_) | (refine o_block rfl ?_)
              | (refine sw_run (by simp [-getElem?_pos, List.getElem?_cons_zero, List.getElem?_cons_succ, hfa, hfb, hA, hal, hga, hlt, hol, hok]; exact Is.mk _) ?_)
              | (refine sw_true (by simp [-getElem?_pos, List.getElem?_cons_zero, List.getElem?_cons_succ, hfa, hfb, hA, hal, hga, hlt, hol, hok]; exact Is.mk _) ?_) | (refine sw_false (by simp [-getElem?_pos, List.getElem?_cons_zero, List.getElem?_cons_succ, hfa, hfb, hA, hal, hga, hlt, hol, hok]; exact Is.mk _) ?_)
              | (refine sw_yes (by simp; exact Is.mk _) (by assumption) ?_)
              | (refine sw_no (by simp; exact Is.mk _) (by assumption) ?_)
              | (refine sw_if (by simp; exact Is.mk _) (fun _ => ?_) (fun _ => ?_)))
            refine sw_draw (us := []) mixed (by kernel_rfl) (by kernel_rfl) (ds_all (by simp [hfa, hfb, hA, hB, hal, hbl, hga, hgb, hlt, hol, hok, List.getElem?_set, hkb, hxy, -getElem?_pos, List.getElem?_cons_zero, List.getElem?_cons_succ]; exact Is.mk _) trivial ?_)
            repeat' (first
              | (refine sw_seq ?_) | (refine sw_block ?_) | (refine sw_skip ?_) | (refine sw_ret ?_) | (refine sw_exit ?_)
              | (refine n_then ?_) | (refine r_then ?_) | (refine e_then ?_) | (refine n_block ?_) | (refine r_block ?_) | (refine e_block ?_) | (refine o_block rfl ?_)
              | (refine sw_run (by simp [-getElem?_pos, List.getElem?_cons_zero, List.getElem?_cons_succ, h6, hwv, hlt, hol, hok, List.getElem?_set, hmm, hw]; exact Is.mk _) ?_)
              | (refine sw_true (by simp [-getElem?_pos, List.getElem?_cons_zero, List.getElem?_cons_succ, h6, hwv, hlt, hol, hok, List.getElem?_set, hmm, hw]; exact Is.mk _) ?_) | (refine sw_false (by simp [-getElem?_pos, List.getElem?_cons_zero, List.getElem?_cons_succ, h6, hwv, hlt, hol, hok, List.getElem?_set, hmm, hw]; exact Is.mk _) ?_)
              | (refine sw_yes (by simp; exact Is.mk _) (by assumption) ?_)
              | (refine sw_no (by simp; exact Is.mk _) (by assumption) ?_)
              | (refine sw_if (by simp; exact Is.mk _) (fun _ => ?_) (fun _ => ?_)))
            obtain ⟨e1, e2, e3, e4⟩ := fin _ rfl
            exact ⟨(k + 1, m', o.set k dk), ⟨by simp only; omega, g1, g2, e1, e2, e3, e4⟩, by simp only; omega, weak_cut_hp (by simp) (by simp [hsm]) (by simp [hn, hn0])⟩
          · rw [if_neg h6] at hdk
            obtain rfl : v = dk := by omega
            repeat' (first
              | (refine sw_seq ?_) | (refine sw_block ?_) | (refine sw_skip ?_) | (refine sw_ret ?_) | (refine sw_exit ?_)
              | (refine n_then ?_) | (refine r_then ?_) | (refine e_then ?_) | (refine n_block ?_) | (refine r_block ?_) | (refine e_block ?_) | (refine o_block rfl ?_)
              | (refine sw_run (by simp [-getElem?_pos, List.getElem?_cons_zero, List.getElem?_cons_succ, hlt, hg, gateC]; exact Is.mk _) ?_)
              | (refine sw_true (by simp [-getElem?_pos, List.getElem?_cons_zero, List.getElem?_cons_succ, hlt, hg, gateC]; exact Is.mk _) ?_) | (refine sw_false (by simp [-getElem?_pos, List.getElem?_cons_zero, List.getElem?_cons_succ, hlt, hg, gateC]; exact Is.mk _) ?_)
              | (refine sw_yes (by simp; exact Is.mk _) (by assumption) ?_)
              | (refine sw_no (by simp; exact Is.mk _) (by assumption) ?_)
              | (refine sw_if (by simp; exact Is.mk _) (fun _ => ?_) (fun _ => ?_)))
            refine sw_ss ?_
            repeat (refine ss_op rfl (by simp [-getElem?_pos, List.getElem?_cons_zero, List.getElem?_cons_succ, ]; exact Is.mk _) ?_)
            refine ss_pure rfl rfl rfl (by simp [-getElem?_pos, List.getElem?_cons_zero, List.getElem?_cons_succ]; exact Is.mk _) (by kernel_rfl) (hof) ?_
            refine ss_all (by simp [-getElem?_pos, List.getElem?_cons_zero, List.getElem?_cons_succ, ]; exact Is.mk _) ?_
            repeat' (first
              | (refine sw_seq ?_) | (refine sw_block ?_) | (refine sw_skip ?_) | (refine sw_ret ?_) | (refine sw_exit ?_)
              | (refine n_then ?_) | (refine r_then ?_) | (refine e_then ?_) | (refine n_block ?_) | (refine r_block ?_) | (refine e_block ?_) | (refine o_block rfl ?_)
              | (refine sw_run (by simp [-getElem?_pos, List.getElem?_cons_zero, List.getElem?_cons_succ, hfa, hfb, hA, hal, hga, hlt, hol, hok]; exact Is.mk _) ?_)
              | (refine sw_true (by simp [-getElem?_pos, List.getElem?_cons_zero, List.getElem?_cons_succ, hfa, hfb, hA, hal, hga, hlt, hol, hok]; exact Is.mk _) ?_) | (refine sw_false (by simp [-getElem?_pos, List.getElem?_cons_zero, List.getElem?_cons_succ, hfa, hfb, hA, hal, hga, hlt, hol, hok]; exact Is.mk _) ?_)
              | (refine sw_yes (by simp; exact Is.mk _) (by assumption) ?_)
              | (refine sw_no (by simp; exact Is.mk _) (by assumption) ?_)
              | (refine sw_if (by simp; exact Is.mk _) (fun _ => ?_) (fun _ => ?_)))
            refine sw_draw (us := []) mixed (by kernel_rfl) (by kernel_rfl) (ds_all (by simp [hfa, hfb, hA, hB, hal, hbl, hga, hgb, hlt, hol, hok, List.getElem?_set, hkb, hxy, -getElem?_pos, List.getElem?_cons_zero, List.getElem?_cons_succ]; exact Is.mk _) trivial ?_)
            repeat' (first
              | (refine sw_seq ?_) | (refine sw_block ?_) | (refine sw_skip ?_) | (refine sw_ret ?_) | (refine sw_exit ?_)
              | (refine n_then ?_) | (refine r_then ?_) | (refine e_then ?_) | (refine n_block ?_) | (refine r_block ?_) | (refine e_block ?_) | (refine o_block rfl ?_)
              | (refine sw_run (by simp [-getElem?_pos, List.getElem?_cons_zero, List.getElem?_cons_succ, h6, hlt, hol, hok, List.getElem?_set, hmm, hw]; exact Is.mk _) ?_)
              | (refine sw_true (by simp [-getElem?_pos, List.getElem?_cons_zero, List.getElem?_cons_succ, h6, hlt, hol, hok, List.getElem?_set, hmm, hw]; exact Is.mk _) ?_) | (refine sw_false (by simp [-getElem?_pos, List.getElem?_cons_zero, List.getElem?_cons_succ, h6, hlt, hol, hok, List.getElem?_set, hmm, hw]; exact Is.mk _) ?_)
              | (refine sw_yes (by simp; exact Is.mk _) (by assumption) ?_)
              | (refine sw_no (by simp; exact Is.mk _) (by assumption) ?_)
              | (refine sw_if (by simp; exact Is.mk _) (fun _ => ?_) (fun _ => ?_)))
            obtain ⟨e1, e2, e3, e4⟩ := fin _ rfl
            exact ⟨(k + 1, m', o.set k v), ⟨by simp only; omega, g1, g2, e1, e2, e3, e4⟩, by simp only; omega, weak_cut_hp (by simp) (by simp [hsm]) (by simp [hn, hn0])⟩
        · have hfa : fa (fidx g) = false := by rw [fa1]; simp; omega
          have hfb : fb (fidx g) = false := by rw [fb1]; simp [k346]
          have hnm : namedL g = [] := by unfold namedL; rw [if_neg k346, if_neg k5]
          have h6 : ¬ g.kind = 6 := by omega
          rw [hnm, if_neg h6] at hdk
          simp only [mxL] at hdk
          have hd0 : dk = 0 := by omega
          subst hd0
          have hos : o = o.set k 0 := by
            apply List.ext_getElem?
            intro j
            rw [List.getElem?_set]
            split
            · rename_i e; subst e; rw [if_pos (by omega), hok]
            · rfl
          repeat' (first
            | (refine sw_seq ?_) | (refine sw_block ?_) | (refine sw_skip ?_) | (refine sw_ret ?_) | (refine sw_exit ?_)
            | (refine n_then ?_) | (refine r_then ?_) | (refine e_then ?_) | (refine n_block ?_) | (refine r_block ?_) | (refine e_block ?_) | (refine o_block rfl ?_)
            | (refine sw_run (by simp [-getElem?_pos, List.getElem?_cons_zero, List.getElem?_cons_succ, hlt, hg, gateC]; exact Is.mk _) ?_)
            | (refine sw_true (by simp [-getElem?_pos, List.getElem?_cons_zero, List.getElem?_cons_succ, hlt, hg, gateC]; exact Is.mk _) ?_) | (refine sw_false (by simp [-getElem?_pos, List.getElem?_cons_zero, List.getElem?_cons_succ, hlt, hg, gateC]; exact Is.mk _) ?_)
            | (refine sw_yes (by simp; exact Is.mk _) (by assumption) ?_)
            | (refine sw_no (by simp; exact Is.mk _) (by assumption) ?_)
            | (refine sw_if (by simp; exact Is.mk _) (fun _ => ?_) (fun _ => ?_)))
          refine sw_ss ?_
          repeat (refine ss_op rfl (by simp [-getElem?_pos, List.getElem?_cons_zero, List.getElem?_cons_succ, ]; exact Is.mk _) ?_)
          refine ss_pure rfl rfl rfl (by simp [-getElem?_pos, List.getElem?_cons_zero, List.getElem?_cons_succ]; exact Is.mk _) (by kernel_rfl) (hof) ?_
          refine ss_all (by simp [-getElem?_pos, List.getElem?_cons_zero, List.getElem?_cons_succ, ]; exact Is.mk _) ?_
          repeat' (first
            | (refine sw_seq ?_) | (refine sw_block ?_) | (refine sw_skip ?_) | (refine sw_ret ?_) | (refine sw_exit ?_)
            | (refine n_then ?_) | (refine r_then ?_) | (refine e_then ?_) | (refine n_block ?_) | (refine r_block ?_) | (refine e_block ?_) | (refine o_block rfl ?_)
            | (refine sw_run (by simp [-getElem?_pos, List.getElem?_cons_zero, List.getElem?_cons_succ, hfa, hfb, h6, hlt, hol, hok, hmm, hw]; exact Is.mk _) ?_)
            | (refine sw_true (by simp [-getElem?_pos, List.getElem?_cons_zero, List.getElem?_cons_succ, hfa, hfb, h6, hlt, hol, hok, hmm, hw]; exact Is.mk _) ?_) | (refine sw_false (by simp [-getElem?_pos, List.getElem?_cons_zero, List.getElem?_cons_succ, hfa, hfb, h6, hlt, hol, hok, hmm, hw]; exact Is.mk _) ?_)
            | (refine sw_yes (by simp; exact Is.mk _) (by assumption) ?_)
            | (refine sw_no (by simp; exact Is.mk _) (by assumption) ?_)
            | (refine sw_if (by simp; exact Is.mk _) (fun _ => ?_) (fun _ => ?_)))
          obtain ⟨e1, e2, e3, e4⟩ := fin o hos
          exact ⟨(k + 1, m', o), ⟨by simp only; omega, g1, g2, e1, e2, e3, e4⟩, by simp only; omega, weak_cut_hp (by simp) (by simp) (by simp [hn, hn0])⟩
    · obtain rfl : k = gs.length := by omega
      rw [List.drop_of_length_le (by omega)] at hm
      simp only [mxL] at hm
      have hM : m = mostFrom (dep gs) 0 gs := by omega
      repeat' (first
        | (refine sw_seq ?_) | (refine sw_block ?_) | (refine sw_skip ?_) | (refine sw_ret ?_) | (refine sw_exit ?_)
        | (refine n_then ?_) | (refine r_then ?_) | (refine e_then ?_) | (refine n_block ?_) | (refine r_block ?_) | (refine e_block ?_) | (refine o_block rfl ?_)
        | (refine sw_run (by simp [-getElem?_pos, List.getElem?_cons_zero, List.getElem?_cons_succ, ]; exact Is.mk _) ?_)
        | (refine sw_true (by simp [-getElem?_pos, List.getElem?_cons_zero, List.getElem?_cons_succ, ]; exact Is.mk _) ?_) | (refine sw_false (by simp [-getElem?_pos, List.getElem?_cons_zero, List.getElem?_cons_succ, ]; exact Is.mk _) ?_)
        | (refine sw_yes (by simp; exact Is.mk _) (by assumption) ?_)
        | (refine sw_no (by simp; exact Is.mk _) (by assumption) ?_)
        | (refine sw_if (by simp; exact Is.mk _) (fun _ => ?_) (fun _ => ?_)))
      exact end_val (by simp; exact Is.mk _) (by simp [hn0, hn]) ⟨rfl, by rw [hM]⟩

end Go.AM
