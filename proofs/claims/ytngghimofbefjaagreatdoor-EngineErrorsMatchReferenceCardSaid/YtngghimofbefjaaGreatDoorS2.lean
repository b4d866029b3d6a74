/- Supported primes, valid gates and circuits, few. -/
import Derived.Test.YtngghimofbefjaaGreatDoorS1
namespace Go.AM
set_option linter.unusedVariables false
set_option linter.unusedSimpArgs false
open Go Go.RowKit Go.Proofs

@[simp] theorem tkInt : tKind Tryz.prog 3 = some .i64 := by kernel_rfl
@[simp] theorem tkUint : tKind Tryz.prog 128 = some .u64 := by kernel_rfl
@[simp] theorem tkU64 : tKind Tryz.prog 22 = some .u64 := by kernel_rfl

def exl : List Int := [5, 7, 13, 17, 19, 31, 61]

theorem exps_spec : Pure Tryz.prog 100 [] (.p (.sl 1 (ints exl))) := by
  refine pure_of Tryz.func100 rfl Tryz.ntmps100 (by simp) fun F n hF hn hn0 => ?_
  repeat' (first
    | (refine sw_seq ?_) | (refine sw_block ?_) | (refine sw_skip ?_) | (refine sw_ret ?_) | (refine sw_exit ?_)
    | (refine n_then ?_) | (refine r_then ?_) | (refine e_then ?_) | (refine n_block ?_) | (refine r_block ?_) | (refine e_block ?_) | (refine o_block rfl ?_)
    | (refine sw_run (by simp []; exact Is.mk _) ?_)
    | (refine sw_true (by simp []; exact Is.mk _) ?_) | (refine sw_false (by simp []; exact Is.mk _) ?_)
    | (refine sw_yes (by simp; exact Is.mk _) (by assumption) ?_)
    | (refine sw_no (by simp; exact Is.mk _) (by assumption) ?_)
    | (refine sw_if (by simp; exact Is.mk _) (fun _ => ?_) (fun _ => ?_)))
  exact end_own (es := ints exl) (by simp; exact Is.mk _) (by simp; exact Is.mk _) (by simp [ints, exl]) (by simp [exl]) (hn0) (by simp [hn0, hn]) ⟨rfl, rfl⟩

/-- The exponent of a supported prime among the list. -/
def expoL (p : Int) : List Int → Int
  | [] => 0
  | x :: l => if p = 2 ^ x.toNat - 1 then x else expoL p l
def expo (p : Int) : Int := expoL p exl

theorem exl_get {k : Nat} {x : Int} (h : exl[k]? = some x) : 0 ≤ x ∧ x ≤ 61 := by
  have := List.mem_of_getElem? h
  simp [exl] at this
  omega

theorem exl_pow {x : Int} (h : 0 ≤ x ∧ x ≤ 61) : IntKind.u64.wrap x = x ∧ (x < 0) = False ∧ IntKind.u64.wrap (IntKind.u64.wrap (2 ^ min x.toNat IntKind.u64.bits) - 1) = 2 ^ x.toNat - 1 := by
  obtain ⟨m, rfl⟩ : ∃ m : Nat, x = m := ⟨x.toNat, by omega⟩
  have hm : m ≤ 61 := by omega
  have key : ∀ m : Nat, m ≤ 61 → IntKind.u64.wrap (m : Int) = (m : Int) ∧ IntKind.u64.wrap (IntKind.u64.wrap (2 ^ min ((m : Int)).toNat IntKind.u64.bits) - 1) = 2 ^ ((m : Int)).toNat - 1 := by decide +kernel
  exact ⟨(key m hm).1, by simp, (key m hm).2⟩

theorem exponent_spec (p : Int) : Pure Tryz.prog 72 [au p] (ai (expo p)) := by
  refine pure_of Tryz.func72 rfl Tryz.ntmps72 (by simp) fun F n hF hn hn0 => ?_
  repeat' (first
    | (refine sw_seq ?_) | (refine sw_block ?_) | (refine sw_skip ?_) | (refine sw_ret ?_) | (refine sw_exit ?_)
    | (refine n_then ?_) | (refine r_then ?_) | (refine e_then ?_) | (refine n_block ?_) | (refine r_block ?_) | (refine e_block ?_) | (refine o_block rfl ?_)
    | (refine sw_run (by simp []; exact Is.mk _) ?_)
    | (refine sw_true (by simp []; exact Is.mk _) ?_) | (refine sw_false (by simp []; exact Is.mk _) ?_)
    | (refine sw_yes (by simp; exact Is.mk _) (by assumption) ?_)
    | (refine sw_no (by simp; exact Is.mk _) (by assumption) ?_)
    | (refine sw_if (by simp; exact Is.mk _) (fun _ => ?_) (fun _ => ?_)))
  refine sw_ss ?_
  repeat (refine ss_op rfl (by simp []; exact Is.mk _) ?_)
  refine ss_pure rfl rfl rfl (by simp; exact Is.mk _) (by kernel_rfl) (exps_spec) ?_
  refine ss_all (by simp []; exact Is.mk _) ?_
  repeat' (first
    | (refine sw_seq ?_) | (refine sw_block ?_) | (refine sw_skip ?_) | (refine sw_ret ?_) | (refine sw_exit ?_)
    | (refine n_then ?_) | (refine r_then ?_) | (refine e_then ?_) | (refine n_block ?_) | (refine r_block ?_) | (refine e_block ?_) | (refine o_block rfl ?_)
    | (refine sw_run (by simp []; exact Is.mk _) ?_)
    | (refine sw_true (by simp []; exact Is.mk _) ?_) | (refine sw_false (by simp []; exact Is.mk _) ?_)
    | (refine sw_yes (by simp; exact Is.mk _) (by assumption) ?_)
    | (refine sw_no (by simp; exact Is.mk _) (by assumption) ?_)
    | (refine sw_if (by simp; exact Is.mk _) (fun _ => ?_) (fun _ => ?_)))
  refine sw_loopI (α := Nat) (fun k => [(0, au p), (3, .p (.sl 1 (ints exl))), (4, ai k)])
    (fun k => []) (fun _ => n)
    (fun k => k ≤ exl.length ∧ expoL p (exl.drop k) = expo p) (fun k => exl.length - k) 0 (by simp [expo]) ?_ ?_ ?_
  · intro _
    exact weak_cut_hp (by simp) (by simp) (by simp)
  · intro x
    exact hF
  · rintro k ⟨hk, he⟩
    by_cases hlt : k < exl.length
    · obtain ⟨x, hx⟩ := get_lt hlt
      have hw : IntKind.i64.wrap ((k : Int) + 1) = ((k + 1 : Nat) : Int) := by rw [i64_in (by simp [exl] at hlt; omega)]; simp
      obtain ⟨hp1, hp2, hp⟩ := exl_pow (exl_get hx)
      rw [drop_cons hx] at he
      simp only [expoL] at he
      by_cases h1 : p = 2 ^ x.toNat - 1
      · rw [if_pos h1] at he
        repeat' (first
          | (refine sw_seq ?_) | (refine sw_block ?_) | (refine sw_skip ?_) | (refine sw_ret ?_) | (refine sw_exit ?_)
          | (refine n_then ?_) | (refine r_then ?_) | (refine e_then ?_) | (refine n_block ?_) | (refine r_block ?_) | (refine e_block ?_) | (refine o_block rfl ?_)
          | (refine sw_run (by simp [hx, hp1, hp2, hp, h1]; exact Is.mk _) ?_)
          | (refine sw_true (by simp [hx, hp1, hp2, hp, h1]; exact Is.mk _) ?_) | (refine sw_false (by simp [hx, hp1, hp2, hp, h1]; exact Is.mk _) ?_)
          | (refine sw_yes (by simp; exact Is.mk _) (by assumption) ?_)
          | (refine sw_no (by simp; exact Is.mk _) (by assumption) ?_)
          | (refine sw_if (by simp; exact Is.mk _) (fun _ => ?_) (fun _ => ?_)))
        exact end_val (by simp; exact Is.mk _) (by simp) ⟨rfl, by rw [he]⟩
      · rw [if_neg h1] at he
        repeat' (first
          | (refine sw_seq ?_) | (refine sw_block ?_) | (refine sw_skip ?_) | (refine sw_ret ?_) | (refine sw_exit ?_)
          | (refine n_then ?_) | (refine r_then ?_) | (refine e_then ?_) | (refine n_block ?_) | (refine r_block ?_) | (refine e_block ?_) | (refine o_block rfl ?_)
          | (refine sw_run (by simp [hx, hp1, hp2, hp, h1, hw]; exact Is.mk _) ?_)
          | (refine sw_true (by simp [hx, hp1, hp2, hp, h1, hw]; exact Is.mk _) ?_) | (refine sw_false (by simp [hx, hp1, hp2, hp, h1, hw]; exact Is.mk _) ?_)
          | (refine sw_yes (by simp; exact Is.mk _) (by assumption) ?_)
          | (refine sw_no (by simp; exact Is.mk _) (by assumption) ?_)
          | (refine sw_if (by simp; exact Is.mk _) (fun _ => ?_) (fun _ => ?_)))
        exact ⟨k + 1, ⟨by omega, he⟩, by omega, weak_cut_hp (by simp) (by simp) (by simp)⟩
    · obtain rfl : k = exl.length := by omega
      simp only [List.drop_length, expoL] at he
      repeat' (first
        | (refine sw_seq ?_) | (refine sw_block ?_) | (refine sw_skip ?_) | (refine sw_ret ?_) | (refine sw_exit ?_)
        | (refine n_then ?_) | (refine r_then ?_) | (refine e_then ?_) | (refine n_block ?_) | (refine r_block ?_) | (refine e_block ?_) | (refine o_block rfl ?_)
        | (refine sw_run (by simp []; exact Is.mk _) ?_)
        | (refine sw_true (by simp []; exact Is.mk _) ?_) | (refine sw_false (by simp []; exact Is.mk _) ?_)
        | (refine sw_yes (by simp; exact Is.mk _) (by assumption) ?_)
        | (refine sw_no (by simp; exact Is.mk _) (by assumption) ?_)
        | (refine sw_if (by simp; exact Is.mk _) (fun _ => ?_) (fun _ => ?_)))
      exact end_val (by simp; exact Is.mk _) (by simp) ⟨rfl, by rw [he]⟩

def supp (p : Int) : Bool := decide (0 < expo p)
theorem supported_spec (p : Int) : Pure Tryz.prog 38 [au p] (ab (supp p)) := by
  refine pure_of Tryz.func38 rfl Tryz.ntmps38 (by simp) fun F n hF hn hn0 => ?_
  repeat' (first
    | (refine sw_seq ?_) | (refine sw_block ?_) | (refine sw_skip ?_) | (refine sw_ret ?_) | (refine sw_exit ?_)
    | (refine n_then ?_) | (refine r_then ?_) | (refine e_then ?_) | (refine n_block ?_) | (refine r_block ?_) | (refine e_block ?_) | (refine o_block rfl ?_)
    | (refine sw_run (by simp []; exact Is.mk _) ?_)
    | (refine sw_true (by simp []; exact Is.mk _) ?_) | (refine sw_false (by simp []; exact Is.mk _) ?_)
    | (refine sw_yes (by simp; exact Is.mk _) (by assumption) ?_)
    | (refine sw_no (by simp; exact Is.mk _) (by assumption) ?_)
    | (refine sw_if (by simp; exact Is.mk _) (fun _ => ?_) (fun _ => ?_)))
  refine sw_ss ?_
  repeat (refine ss_op rfl (by simp []; exact Is.mk _) ?_)
  refine ss_pure rfl rfl rfl (by simp; exact Is.mk _) (by kernel_rfl) (exponent_spec p) ?_
  refine ss_all (by simp []; exact Is.mk _) ?_
  repeat' (first
    | (refine sw_seq ?_) | (refine sw_block ?_) | (refine sw_skip ?_) | (refine sw_ret ?_) | (refine sw_exit ?_)
    | (refine n_then ?_) | (refine r_then ?_) | (refine e_then ?_) | (refine n_block ?_) | (refine r_block ?_) | (refine e_block ?_) | (refine o_block rfl ?_)
    | (refine sw_run (by simp []; exact Is.mk _) ?_)
    | (refine sw_true (by simp []; exact Is.mk _) ?_) | (refine sw_false (by simp []; exact Is.mk _) ?_)
    | (refine sw_yes (by simp; exact Is.mk _) (by assumption) ?_)
    | (refine sw_no (by simp; exact Is.mk _) (by assumption) ?_)
    | (refine sw_if (by simp; exact Is.mk _) (fun _ => ?_) (fun _ => ?_)))
  exact end_val (by simp; exact Is.mk _) (by simp) ⟨rfl, by simp [supp]⟩

end Go.AM
