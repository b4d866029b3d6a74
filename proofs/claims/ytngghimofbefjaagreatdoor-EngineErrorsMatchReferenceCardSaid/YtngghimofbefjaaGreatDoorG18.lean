/- The forms of gates. -/
import Derived.Test.YtngghimofbefjaaGreatDoorG17
import Derived.Test.YtngghimofbefjaaGreatDoorM2
namespace Go.AM
set_option linter.unusedVariables false
set_option linter.unusedSimpArgs false
open Go Go.RowKit Go.Proofs

@[simp] theorem taForm : tAgg Tryz.prog 244 = some (true, 7) := by kernel_rfl
@[simp] theorem taForms : tAgg Tryz.prog 291 = some (true, 49) := by kernel_rfl
@[simp] theorem teForms : tElem Tryz.prog 291 = none := by kernel_rfl
@[simp] theorem trForms : tArr Tryz.prog 291 = some (7, 7, true) := by kernel_rfl
@[simp] theorem tzForm : tZero Tryz.prog 244 = some [.string ⟨#[]⟩, .int .i64 0, .bool false, .bool false, .bool false, .bool false, .bool false] := by kernel_rfl
@[simp] theorem tfForm1 : tField Tryz.prog 244 1 = some (1, false, 1) := by kernel_rfl
@[simp] theorem tfForm4 : tField Tryz.prog 244 4 = some (4, false, 1) := by kernel_rfl
@[simp] theorem tfForm5 : tField Tryz.prog 244 5 = some (5, false, 1) := by kernel_rfl
@[simp] theorem tfForm6 : tField Tryz.prog 244 6 = some (6, false, 1) := by kernel_rfl

def fcells : List AV := ((gfind (Glob.tab : List (Nat × List PV)) 1).getD []).map AV.p
def fs (i : Nat) : ByteArray := match fcells[i * 7]? with | some (.p (.v (.string s))) => s | _ => ⟨#[]⟩
def fk (i : Nat) : Int := ([1, 1, 2, 3, 4, 5, 6] : List Int).getD i 0
def ff (i : Nat) : Bool := decide (i < 2)
def fc (i : Nat) : Bool := i == 2 || i == 5
def fa (i : Nat) : Bool := decide (3 ≤ i)
def fb (i : Nat) : Bool := i == 3 || i == 4 || i == 6
def fm (i : Nat) : Bool := i == 1
abbrev frow (i : Nat) : List AV := [.p (.v (.string (fs i))), ai (fk i), ab (ff i), ab (fc i), ab (fa i), ab (fb i), ab (fm i)]
theorem apart_forms {i : Nat} (h : i < 7) : apart fcells (i * 7) true 7 = some (.agg (frow i)) := by
  rcases i with _ | _ | _ | _ | _ | _ | _ | i
  iterate 7 rfl
  omega
def fmatch (g : Gate) (i : Nat) : Bool := decide (fk i = g.kind) && (fm i == (decide (g.kind = 1) && decide (g.k = 1)))

theorem convL_f {D : Nat → Prop} {A : AV → AV → Prop} : convL D A fcells fcells = True := eq_true (convL_ps _)

set_option maxHeartbeats 4000000 in
theorem of_spec (g : Gate) (i : Nat) (hi : i < 7) (hm : fmatch g i = true) (hn' : ∀ j, j < i → fmatch g j = false) : Pure Tryz.prog 154 [gateA g] (.tup [.agg (frow i), ab true]) := by
  refine pure_of Tryz.func154 rfl Tryz.ntmps154 (by simp) fun F n hF hn hn0 => ?_
  unfold gateA
  repeat' (first
    | (refine sw_seq ?_) | (refine sw_block ?_) | (refine sw_skip ?_) | (refine sw_ret ?_) | (refine sw_exit ?_)
    | (refine n_then ?_) | (refine r_then ?_) | (refine e_then ?_) | (refine n_block ?_) | (refine r_block ?_) | (refine e_block ?_) | (refine o_block rfl ?_)
    | (refine sw_run (by simp [-getElem?_pos, List.getElem?_cons_zero, List.getElem?_cons_succ, gfind]; exact Is.mk _) ?_)
    | (refine sw_true (by simp [-getElem?_pos, List.getElem?_cons_zero, List.getElem?_cons_succ, gfind]; exact Is.mk _) ?_) | (refine sw_false (by simp [-getElem?_pos, List.getElem?_cons_zero, List.getElem?_cons_succ, gfind]; exact Is.mk _) ?_)
    | (refine sw_yes (by simp; exact Is.mk _) (by assumption) ?_)
    | (refine sw_no (by simp; exact Is.mk _) (by assumption) ?_)
    | (refine sw_if (by simp; exact Is.mk _) (fun _ => ?_) (fun _ => ?_)))
  refine sw_loopI (α := Nat) (fun j => [(1, .ptr n 0 0 0), (2, .ptr (n + 1) 0 0 0), (6, .agg fcells), (7, ai j)]) (fun _ => [(n + 1, .row 0 244 7 [[.p (.v (.string ⟨#[]⟩)), ai 0, ab false, ab false, ab false, ab false, ab false]]), (n, gateB g)]) (fun _ => n + 2)
    (fun j => j ≤ i) (fun j => i - j) 0 (Nat.zero_le _) ?_ ?_ ?_
  · intro _
    refine weak_cut_hp ?_ (by simp) (by simp)
    unfold fcells
    simp [gfind]
  · intro x
    exact fresh_of hF (by omega) (by simp)
  · intro j hj
    have hj7 : j < 7 := by omega
    have hj8 : (j : Int) < 7 := by omega
    have hap := apart_forms hj7
    have hw : IntKind.i64.wrap ((j : Int) + 1) = ((j + 1 : Nat) : Int) := by rw [i64_in (by omega)]; simp
    by_cases e : j = i
    · subst e
      cases hb : fm j <;> by_cases k1 : g.kind = 1 <;> by_cases k2 : g.k = 1
      all_goals try (exfalso; simp [fmatch, hb, k1, k2] at hm; done)
      all_goals
        have c1 : fk j = g.kind := by unfold fmatch at hm; simp only [Bool.and_eq_true, decide_eq_true_eq] at hm; exact hm.1
        repeat' (first
          | (refine sw_seq ?_) | (refine sw_block ?_) | (refine sw_skip ?_) | (refine sw_ret ?_) | (refine sw_exit ?_)
          | (refine n_then ?_) | (refine r_then ?_) | (refine e_then ?_) | (refine n_block ?_) | (refine r_block ?_) | (refine e_block ?_) | (refine o_block rfl ?_)
          | (refine sw_run (by simp [-getElem?_pos, List.getElem?_cons_zero, List.getElem?_cons_succ, -apart, hj7, hj8, hap, hw, c1, k1, k2, hb]; exact Is.mk _) ?_)
          | (refine sw_true (by simp [-getElem?_pos, List.getElem?_cons_zero, List.getElem?_cons_succ, -apart, hj7, hj8, hap, hw, c1, k1, k2, hb]; exact Is.mk _) ?_) | (refine sw_false (by simp [-getElem?_pos, List.getElem?_cons_zero, List.getElem?_cons_succ, -apart, hj7, hj8, hap, hw, c1, k1, k2, hb]; exact Is.mk _) ?_)
          | (refine sw_yes (by simp; exact Is.mk _) (by assumption) ?_)
          | (refine sw_no (by simp; exact Is.mk _) (by assumption) ?_)
          | (refine sw_if (by simp; exact Is.mk _) (fun _ => ?_) (fun _ => ?_)))
        exact end_ret (by simp; exact Is.mk _) (fun _ => weak_plain (by simp [conv, convL]) (by simp [hn, hn0])) ⟨rfl, by simp [c1, k1, hb]⟩
    · have hx := hn' j (by omega)
      by_cases c1 : fk j = g.kind
      · cases hb : fm j <;> by_cases k1 : g.kind = 1 <;> by_cases k2 : g.k = 1
        all_goals try (exfalso; simp [fmatch, hb, k1, k2, c1] at hx; done)
        all_goals
          repeat' (first
            | (refine sw_seq ?_) | (refine sw_block ?_) | (refine sw_skip ?_) | (refine sw_ret ?_) | (refine sw_exit ?_)
            | (refine n_then ?_) | (refine r_then ?_) | (refine e_then ?_) | (refine n_block ?_) | (refine r_block ?_) | (refine e_block ?_) | (refine o_block rfl ?_)
            | (refine sw_run (by simp [-getElem?_pos, List.getElem?_cons_zero, List.getElem?_cons_succ, -apart, hj7, hj8, hap, hw, c1, k1, k2, hb]; exact Is.mk _) ?_)
            | (refine sw_true (by simp [-getElem?_pos, List.getElem?_cons_zero, List.getElem?_cons_succ, -apart, hj7, hj8, hap, hw, c1, k1, k2, hb]; exact Is.mk _) ?_) | (refine sw_false (by simp [-getElem?_pos, List.getElem?_cons_zero, List.getElem?_cons_succ, -apart, hj7, hj8, hap, hw, c1, k1, k2, hb]; exact Is.mk _) ?_)
            | (refine sw_yes (by simp; exact Is.mk _) (by assumption) ?_)
            | (refine sw_no (by simp; exact Is.mk _) (by assumption) ?_)
            | (refine sw_if (by simp; exact Is.mk _) (fun _ => ?_) (fun _ => ?_)))
          exact ⟨j + 1, by omega, by omega, weak_cut_hp (by simp [convL_f]) (by simp) (by simp [hn, hn0])⟩
      · repeat' (first
          | (refine sw_seq ?_) | (refine sw_block ?_) | (refine sw_skip ?_) | (refine sw_ret ?_) | (refine sw_exit ?_)
          | (refine n_then ?_) | (refine r_then ?_) | (refine e_then ?_) | (refine n_block ?_) | (refine r_block ?_) | (refine e_block ?_) | (refine o_block rfl ?_)
          | (refine sw_run (by simp [-getElem?_pos, List.getElem?_cons_zero, List.getElem?_cons_succ, -apart, hj7, hj8, hap, hw, c1]; exact Is.mk _) ?_)
          | (refine sw_true (by simp [-getElem?_pos, List.getElem?_cons_zero, List.getElem?_cons_succ, -apart, hj7, hj8, hap, hw, c1]; exact Is.mk _) ?_) | (refine sw_false (by simp [-getElem?_pos, List.getElem?_cons_zero, List.getElem?_cons_succ, -apart, hj7, hj8, hap, hw, c1]; exact Is.mk _) ?_)
          | (refine sw_yes (by simp; exact Is.mk _) (by assumption) ?_)
          | (refine sw_no (by simp; exact Is.mk _) (by assumption) ?_)
          | (refine sw_if (by simp; exact Is.mk _) (fun _ => ?_) (fun _ => ?_)))
        exact ⟨j + 1, by omega, by omega, weak_cut_hp (by simp [convL_f]) (by simp) (by simp [hn, hn0])⟩

end Go.AM
