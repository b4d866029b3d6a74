/- Decimal numbers up to 13. -/
import Derived.Test.YtmljoaiedihoiaaDoorB10
namespace Go.AM
set_option linter.unusedVariables false
set_option linter.unusedSimpArgs false
open Go Go.RowKit Go.Proofs

@[simp] theorem tkU8 : tKind Tryd.prog 5 = some .u8 := by kernel_rfl
@[simp] theorem tkStr : tKind Tryd.prog 9 = none := by kernel_rfl
@[simp] theorem tkBytes : tKind Tryd.prog 80 = none := by kernel_rfl
@[simp] theorem tsStr : tStr Tryd.prog 9 = true := by kernel_rfl
@[simp] theorem tbBytes : tBytes Tryd.prog 80 = true := by kernel_rfl
@[simp] theorem taU8 : tAgg Tryd.prog 5 = some (false, 1) := by kernel_rfl
@[simp] theorem taBytes : tAgg Tryd.prog 80 = some (false, 1) := by kernel_rfl
@[simp] theorem teBytes : tElem Tryd.prog 80 = some (5, 1, 1, [.int .u8 0]) := by kernel_rfl
@[simp] theorem teStr : tElem Tryd.prog 9 = none := by kernel_rfl
@[simp] theorem trStr : tArr Tryd.prog 9 = none := by kernel_rfl

/-- The decimal of a number below 100. -/
def dec (k : Nat) : ByteArray := if k < 10 then ⟨#[UInt8.ofNat (48 + k)]⟩ else ⟨#[UInt8.ofNat (48 + k / 10), UInt8.ofNat (48 + k % 10)]⟩
abbrev astr (s : ByteArray) : AV := .p (.v (.string s))

theorem small_lit {k : Nat} (h : k < 10) : ByteArray.extract ⟨#[48, 49, 50, 51, 52, 53, 54, 55, 56, 57, 97, 98, 99, 100, 101, 102, 103, 104, 105, 106, 107, 108, 109, 110, 111, 112, 113, 114, 115, 116, 117, 118, 119, 120, 121, 122]⟩ k (k + 1) = dec k := by
  revert k
  decide +kernel

set_option maxHeartbeats 1000000 in
set_option maxRecDepth 4000 in
theorem small_spec (k : Nat) (hk : k ≤ 13) : Pure Tryd.prog 70 [ai k] (astr (dec k)) := by
  refine pure_of Tryd.func70 rfl Tryd.ntmps70 (by simp) fun F n hF hn hn0 => ?_
  by_cases h : (k : Int) < 10
  · have hw : IntKind.i64.wrap ((k : Int) + 1) = ((k + 1 : Nat) : Int) := by rw [i64_in (by omega)]; simp
    have g1 : (k : Int) ≤ (k : Int) + 1 := by omega
    have g2 : (k : Int) + 1 ≤ 36 := by omega
    have h' : k < 10 := by omega
    repeat' (first
      | (refine sw_seq ?_) | (refine sw_block ?_) | (refine sw_skip ?_) | (refine sw_ret ?_) | (refine sw_exit ?_)
      | (refine n_then ?_) | (refine r_then ?_) | (refine e_then ?_) | (refine n_block ?_) | (refine r_block ?_) | (refine e_block ?_) | (refine o_block rfl ?_)
      | (refine sw_run (by simp [-getElem?_pos, -List.reduceReplicate, List.getElem?_cons_zero, List.getElem?_cons_succ, h, h', hw, g1, g2, ByteArray.size]; exact Is.mk _) ?_)
      | (refine sw_true (by simp [-getElem?_pos, -List.reduceReplicate, List.getElem?_cons_zero, List.getElem?_cons_succ, h, h', hw, g1, g2, ByteArray.size]; exact Is.mk _) ?_) | (refine sw_false (by simp [-getElem?_pos, -List.reduceReplicate, List.getElem?_cons_zero, List.getElem?_cons_succ, h, h', hw, g1, g2, ByteArray.size]; exact Is.mk _) ?_)
      | (refine sw_yes (by simp; exact Is.mk _) (by assumption) ?_)
      | (refine sw_no (by simp; exact Is.mk _) (by assumption) ?_)
      | (refine sw_if (by simp; exact Is.mk _) (fun _ => ?_) (fun _ => ?_)))
    exact end_val (by simp; exact Is.mk _) (by simp) ⟨rfl, by rw [small_lit h']⟩
  · have hd : k = 10 ∨ k = 11 ∨ k = 12 ∨ k = 13 := by omega
    have g1 : (k : Int) * 2 ≤ (k : Int) * 2 + 2 := by omega
    have g2 : (k : Int) * 2 + 2 ≤ 200 := by omega
    have g0 : 0 ≤ (k : Int) * 2 := by omega
    have w1 : IntKind.i64.wrap ((k : Int) * 2) = (k : Int) * 2 := i64_in (by omega)
    have w2 : IntKind.i64.wrap ((k : Int) * 2 + 2) = (k : Int) * 2 + 2 := i64_in (by omega)
    repeat' (first
      | (refine sw_seq ?_) | (refine sw_block ?_) | (refine sw_skip ?_) | (refine sw_ret ?_) | (refine sw_exit ?_)
      | (refine n_then ?_) | (refine r_then ?_) | (refine e_then ?_) | (refine n_block ?_) | (refine r_block ?_) | (refine e_block ?_) | (refine o_block rfl ?_)
      | (refine sw_run (by simp [-getElem?_pos, -List.reduceReplicate, List.getElem?_cons_zero, List.getElem?_cons_succ, h, w1, w2, g0, g1, g2, ByteArray.size, List.append_eq]; exact Is.mk _) ?_)
      | (refine sw_true (by simp [-getElem?_pos, -List.reduceReplicate, List.getElem?_cons_zero, List.getElem?_cons_succ, h, w1, w2, g0, g1, g2, ByteArray.size, List.append_eq]; exact Is.mk _) ?_) | (refine sw_false (by simp [-getElem?_pos, -List.reduceReplicate, List.getElem?_cons_zero, List.getElem?_cons_succ, h, w1, w2, g0, g1, g2, ByteArray.size, List.append_eq]; exact Is.mk _) ?_)
      | (refine sw_yes (by simp; exact Is.mk _) (by assumption) ?_)
      | (refine sw_no (by simp; exact Is.mk _) (by assumption) ?_)
      | (refine sw_if (by simp; exact Is.mk _) (fun _ => ?_) (fun _ => ?_)))
    exact end_val (by simp; exact Is.mk _) (by simp) ⟨rfl, congrArg (fun s => astr s) (by rcases hd with rfl | rfl | rfl | rfl <;> decide +kernel)⟩

theorem u64_ok {k : Nat} (h : k ≤ 13) : IntKind.u64.wrap (k : Int) = k := u64_in (by omega)

set_option maxHeartbeats 1000000 in
theorem uint_spec (k : Nat) (hk : k ≤ 13) : Pure Tryd.prog 68 [au k, ai 10] (astr (dec k)) := by
  refine pure_of Tryd.func68 rfl Tryd.ntmps68 (by simp) fun F n hF hn hn0 => ?_
  have h : k < 100 := by omega
  have h1 : (k : Int) < 100 := by omega
  have hw : IntKind.i64.wrap (k : Int) = k := i64_in (by omega)
  repeat' (first
    | (refine sw_seq ?_) | (refine sw_block ?_) | (refine sw_skip ?_) | (refine sw_ret ?_) | (refine sw_exit ?_)
    | (refine n_then ?_) | (refine r_then ?_) | (refine e_then ?_) | (refine n_block ?_) | (refine r_block ?_) | (refine e_block ?_) | (refine o_block rfl ?_)
    | (refine sw_run (by simp [-getElem?_pos, -List.reduceReplicate, List.getElem?_cons_zero, List.getElem?_cons_succ, h, h1, hw]; exact Is.mk _) ?_)
    | (refine sw_true (by simp [-getElem?_pos, -List.reduceReplicate, List.getElem?_cons_zero, List.getElem?_cons_succ, h, h1, hw]; exact Is.mk _) ?_) | (refine sw_false (by simp [-getElem?_pos, -List.reduceReplicate, List.getElem?_cons_zero, List.getElem?_cons_succ, h, h1, hw]; exact Is.mk _) ?_)
    | (refine sw_yes (by simp; exact Is.mk _) (by assumption) ?_)
    | (refine sw_no (by simp; exact Is.mk _) (by assumption) ?_)
    | (refine sw_if (by simp; exact Is.mk _) (fun _ => ?_) (fun _ => ?_)))
  refine sw_ss ?_
  repeat (refine ss_op rfl (by simp [-getElem?_pos, -List.reduceReplicate, List.getElem?_cons_zero, List.getElem?_cons_succ, hw]; exact Is.mk _) ?_)
  refine ss_pure rfl rfl rfl (by simp [-getElem?_pos, -List.reduceReplicate, List.getElem?_cons_zero, List.getElem?_cons_succ]; exact Is.mk _) (by kernel_rfl) (small_spec k hk) ?_
  refine ss_all (by simp [-getElem?_pos, -List.reduceReplicate, List.getElem?_cons_zero, List.getElem?_cons_succ, ]; exact Is.mk _) ?_
  repeat' (first
    | (refine sw_seq ?_) | (refine sw_block ?_) | (refine sw_skip ?_) | (refine sw_ret ?_) | (refine sw_exit ?_)
    | (refine n_then ?_) | (refine r_then ?_) | (refine e_then ?_) | (refine n_block ?_) | (refine r_block ?_) | (refine e_block ?_) | (refine o_block rfl ?_)
    | (refine sw_run (by simp [-getElem?_pos, -List.reduceReplicate, List.getElem?_cons_zero, List.getElem?_cons_succ, ]; exact Is.mk _) ?_)
    | (refine sw_true (by simp [-getElem?_pos, -List.reduceReplicate, List.getElem?_cons_zero, List.getElem?_cons_succ, ]; exact Is.mk _) ?_) | (refine sw_false (by simp [-getElem?_pos, -List.reduceReplicate, List.getElem?_cons_zero, List.getElem?_cons_succ, ]; exact Is.mk _) ?_)
    | (refine sw_yes (by simp; exact Is.mk _) (by assumption) ?_)
    | (refine sw_no (by simp; exact Is.mk _) (by assumption) ?_)
    | (refine sw_if (by simp; exact Is.mk _) (fun _ => ?_) (fun _ => ?_)))
  exact end_val (by simp; exact Is.mk _) (by simp) ⟨rfl, rfl⟩

set_option maxHeartbeats 1000000 in
theorem suint_spec (k : Nat) (hk : k ≤ 13) : Pure Tryd.prog 62 [au k, ai 10] (astr (dec k)) := by
  refine pure_of Tryd.func62 rfl Tryd.ntmps62 (by simp) fun F n hF hn hn0 => ?_
  repeat' (first
    | (refine sw_seq ?_) | (refine sw_block ?_) | (refine sw_skip ?_) | (refine sw_ret ?_) | (refine sw_exit ?_)
    | (refine n_then ?_) | (refine r_then ?_) | (refine e_then ?_) | (refine n_block ?_) | (refine r_block ?_) | (refine e_block ?_) | (refine o_block rfl ?_)
    | (refine sw_run (by simp [-getElem?_pos, -List.reduceReplicate, List.getElem?_cons_zero, List.getElem?_cons_succ, ]; exact Is.mk _) ?_)
    | (refine sw_true (by simp [-getElem?_pos, -List.reduceReplicate, List.getElem?_cons_zero, List.getElem?_cons_succ, ]; exact Is.mk _) ?_) | (refine sw_false (by simp [-getElem?_pos, -List.reduceReplicate, List.getElem?_cons_zero, List.getElem?_cons_succ, ]; exact Is.mk _) ?_)
    | (refine sw_yes (by simp; exact Is.mk _) (by assumption) ?_)
    | (refine sw_no (by simp; exact Is.mk _) (by assumption) ?_)
    | (refine sw_if (by simp; exact Is.mk _) (fun _ => ?_) (fun _ => ?_)))
  refine sw_ss ?_
  repeat (refine ss_op rfl (by simp [-getElem?_pos, -List.reduceReplicate, List.getElem?_cons_zero, List.getElem?_cons_succ, ]; exact Is.mk _) ?_)
  refine ss_pure rfl rfl rfl (by simp [-getElem?_pos, -List.reduceReplicate, List.getElem?_cons_zero, List.getElem?_cons_succ]; exact Is.mk _) (by kernel_rfl) (uint_spec k hk) ?_
  refine ss_all (by simp [-getElem?_pos, -List.reduceReplicate, List.getElem?_cons_zero, List.getElem?_cons_succ, ]; exact Is.mk _) ?_
  repeat' (first
    | (refine sw_seq ?_) | (refine sw_block ?_) | (refine sw_skip ?_) | (refine sw_ret ?_) | (refine sw_exit ?_)
    | (refine n_then ?_) | (refine r_then ?_) | (refine e_then ?_) | (refine n_block ?_) | (refine r_block ?_) | (refine e_block ?_) | (refine o_block rfl ?_)
    | (refine sw_run (by simp [-getElem?_pos, -List.reduceReplicate, List.getElem?_cons_zero, List.getElem?_cons_succ, ]; exact Is.mk _) ?_)
    | (refine sw_true (by simp [-getElem?_pos, -List.reduceReplicate, List.getElem?_cons_zero, List.getElem?_cons_succ, ]; exact Is.mk _) ?_) | (refine sw_false (by simp [-getElem?_pos, -List.reduceReplicate, List.getElem?_cons_zero, List.getElem?_cons_succ, ]; exact Is.mk _) ?_)
    | (refine sw_yes (by simp; exact Is.mk _) (by assumption) ?_)
    | (refine sw_no (by simp; exact Is.mk _) (by assumption) ?_)
    | (refine sw_if (by simp; exact Is.mk _) (fun _ => ?_) (fun _ => ?_)))
  exact end_val (by simp; exact Is.mk _) (by simp) ⟨rfl, rfl⟩

set_option maxHeartbeats 1000000 in
theorem decimal_spec (k : Nat) (hk : k ≤ 13) : Pure Tryd.prog 43 [au k] (astr (dec k)) := by
  refine pure_of Tryd.func43 rfl Tryd.ntmps43 (by simp) fun F n hF hn hn0 => ?_
  repeat' (first
    | (refine sw_seq ?_) | (refine sw_block ?_) | (refine sw_skip ?_) | (refine sw_ret ?_) | (refine sw_exit ?_)
    | (refine n_then ?_) | (refine r_then ?_) | (refine e_then ?_) | (refine n_block ?_) | (refine r_block ?_) | (refine e_block ?_) | (refine o_block rfl ?_)
    | (refine sw_run (by simp [-getElem?_pos, -List.reduceReplicate, List.getElem?_cons_zero, List.getElem?_cons_succ, ]; exact Is.mk _) ?_)
    | (refine sw_true (by simp [-getElem?_pos, -List.reduceReplicate, List.getElem?_cons_zero, List.getElem?_cons_succ, ]; exact Is.mk _) ?_) | (refine sw_false (by simp [-getElem?_pos, -List.reduceReplicate, List.getElem?_cons_zero, List.getElem?_cons_succ, ]; exact Is.mk _) ?_)
    | (refine sw_yes (by simp; exact Is.mk _) (by assumption) ?_)
    | (refine sw_no (by simp; exact Is.mk _) (by assumption) ?_)
    | (refine sw_if (by simp; exact Is.mk _) (fun _ => ?_) (fun _ => ?_)))
  refine sw_ss ?_
  repeat (refine ss_op rfl (by simp [-getElem?_pos, -List.reduceReplicate, List.getElem?_cons_zero, List.getElem?_cons_succ, ]; exact Is.mk _) ?_)
  refine ss_pure rfl rfl rfl (by simp [-getElem?_pos, -List.reduceReplicate, List.getElem?_cons_zero, List.getElem?_cons_succ]; exact Is.mk _) (by kernel_rfl) (suint_spec k hk) ?_
  refine ss_all (by simp [-getElem?_pos, -List.reduceReplicate, List.getElem?_cons_zero, List.getElem?_cons_succ, ]; exact Is.mk _) ?_
  repeat' (first
    | (refine sw_seq ?_) | (refine sw_block ?_) | (refine sw_skip ?_) | (refine sw_ret ?_) | (refine sw_exit ?_)
    | (refine n_then ?_) | (refine r_then ?_) | (refine e_then ?_) | (refine n_block ?_) | (refine r_block ?_) | (refine e_block ?_) | (refine o_block rfl ?_)
    | (refine sw_run (by simp [-getElem?_pos, -List.reduceReplicate, List.getElem?_cons_zero, List.getElem?_cons_succ, ]; exact Is.mk _) ?_)
    | (refine sw_true (by simp [-getElem?_pos, -List.reduceReplicate, List.getElem?_cons_zero, List.getElem?_cons_succ, ]; exact Is.mk _) ?_) | (refine sw_false (by simp [-getElem?_pos, -List.reduceReplicate, List.getElem?_cons_zero, List.getElem?_cons_succ, ]; exact Is.mk _) ?_)
    | (refine sw_yes (by simp; exact Is.mk _) (by assumption) ?_)
    | (refine sw_no (by simp; exact Is.mk _) (by assumption) ?_)
    | (refine sw_if (by simp; exact Is.mk _) (fun _ => ?_) (fun _ => ?_)))
  exact end_val (by simp; exact Is.mk _) (by simp) ⟨rfl, rfl⟩

abbrev one (x : Nat) : ByteArray := ByteArray.empty.push (UInt8.ofNat (48 + (x : Int) % 10).toNat)
theorem dig {k : Nat} (hk : k ≤ 13) : IntKind.u64.wrap (48 + (k : Int) % 10) = 48 + (k : Int) % 10 ∧ IntKind.u8.wrap (48 + (k : Int) % 10) = 48 + (k : Int) % 10 ∧ IntKind.u64.wrap ((k : Int) / 10) = (k : Int) / 10 := by
  have : ∀ k : Nat, k < 14 → IntKind.u64.wrap (48 + (k : Int) % 10) = 48 + (k : Int) % 10 ∧ IntKind.u8.wrap (48 + (k : Int) % 10) = 48 + (k : Int) % 10 ∧ IntKind.u64.wrap ((k : Int) / 10) = (k : Int) / 10 := by decide +kernel
  exact this k (by omega)
theorem tm {x : Int} (h : 0 ≤ x) : x.tmod 10 = x % 10 := Int.tmod_eq_emod_of_nonneg h
theorem td {x : Int} (h : 0 ≤ x) : x.tdiv 10 = x / 10 := Int.tdiv_eq_ediv_of_nonneg h
theorem one_dec {k : Nat} (h : k < 10) : one k = dec k := by
  revert k; decide +kernel
theorem two_dec {k : Nat} (h : k < 14) (h10 : 10 ≤ k) : one (k / 10) ++ one k = dec k := by
  have : ∀ k : Nat, k < 14 → 10 ≤ k → one (k / 10) ++ one k = dec k := by decide +kernel
  exact this k h h10
theorem one_size (b : UInt8) : (ByteArray.empty.push b).size = 1 := rfl

set_option maxHeartbeats 1000000 in
theorem rdecimal_spec (k : Nat) (hk : k ≤ 13) : Pure Tryd.prog 46 [au k] (astr (dec k)) := by
  refine pure_of Tryd.func46 rfl Tryd.ntmps46 (by simp) fun F n hF hn hn0 => ?_
  obtain ⟨d2, d3, d4⟩ := dig hk
  have d1 := tm (x := (k : Int)) (by omega)
  repeat' (first
    | (refine sw_seq ?_) | (refine sw_block ?_) | (refine sw_skip ?_) | (refine sw_ret ?_) | (refine sw_exit ?_)
    | (refine n_then ?_) | (refine r_then ?_) | (refine e_then ?_) | (refine n_block ?_) | (refine r_block ?_) | (refine e_block ?_) | (refine o_block rfl ?_)
    | (refine sw_run (by simp [-getElem?_pos, -List.reduceReplicate, List.getElem?_cons_zero, List.getElem?_cons_succ, d1, d2, d3, d4]; exact Is.mk _) ?_)
    | (refine sw_true (by simp [-getElem?_pos, -List.reduceReplicate, List.getElem?_cons_zero, List.getElem?_cons_succ, d1, d2, d3, d4]; exact Is.mk _) ?_) | (refine sw_false (by simp [-getElem?_pos, -List.reduceReplicate, List.getElem?_cons_zero, List.getElem?_cons_succ, d1, d2, d3, d4]; exact Is.mk _) ?_)
    | (refine sw_yes (by simp; exact Is.mk _) (by assumption) ?_)
    | (refine sw_no (by simp; exact Is.mk _) (by assumption) ?_)
    | (refine sw_if (by simp; exact Is.mk _) (fun _ => ?_) (fun _ => ?_)))
  refine sw_loopI (α := Nat × ByteArray) (fun x => [(0, au x.1), (3, astr x.2)]) (fun _ => []) (fun _ => n) (fun x => (x.1 = k ∧ x.2 = one k) ∨ (10 ≤ k ∧ x.1 = k / 10 ∧ x.2 = dec k)) (fun x => x.1) (k, one k) (.inl ⟨rfl, rfl⟩) ?_ ?_ ?_
  · intro _
    exact weak_cut_hp (by simp) (by simp) (by simp [hn, hn0])
  · intro x
    exact hF
  · rintro ⟨x, s⟩ hx
    simp only at hx ⊢
    by_cases h10 : 10 ≤ x
    · have h10' : 10 ≤ (x : Int) := by omega
      have hxk : x = k ∧ s = one k := by
        rcases hx with h | h
        · exact h
        · omega
      obtain ⟨rfl, rfl⟩ := hxk
      obtain ⟨e2, e3, e4⟩ := dig (k := x / 10) (by omega)
      have ec : ((x / 10 : Nat) : Int) = (x : Int) / 10 := by omega
      rw [ec] at e2 e3
      have h2 := two_dec (k := x) (by omega) h10
      have hz := one_size
      have d5 := td (x := (x : Int)) (by omega)
      have e1 := tm (x := (x : Int) / 10) (by omega)
      repeat' (first
        | (refine sw_seq ?_) | (refine sw_block ?_) | (refine sw_skip ?_) | (refine sw_ret ?_) | (refine sw_exit ?_)
        | (refine n_then ?_) | (refine r_then ?_) | (refine e_then ?_) | (refine n_block ?_) | (refine r_block ?_) | (refine e_block ?_) | (refine o_block rfl ?_)
        | (refine sw_run (by simp [-getElem?_pos, -List.reduceReplicate, List.getElem?_cons_zero, List.getElem?_cons_succ, h10, h10', d4, d5, e1, e2, e3, hz]; exact Is.mk _) ?_)
        | (refine sw_true (by simp [-getElem?_pos, -List.reduceReplicate, List.getElem?_cons_zero, List.getElem?_cons_succ, h10, h10', d4, d5, e1, e2, e3, hz]; exact Is.mk _) ?_) | (refine sw_false (by simp [-getElem?_pos, -List.reduceReplicate, List.getElem?_cons_zero, List.getElem?_cons_succ, h10, h10', d4, d5, e1, e2, e3, hz]; exact Is.mk _) ?_)
        | (refine sw_yes (by simp; exact Is.mk _) (by assumption) ?_)
        | (refine sw_no (by simp; exact Is.mk _) (by assumption) ?_)
        | (refine sw_if (by simp; exact Is.mk _) (fun _ => ?_) (fun _ => ?_)))
      refine ⟨(x / 10, dec x), .inr ⟨h10, rfl, rfl⟩, by simp only; omega, ?_⟩
      rw [← h2]
      exact weak_cut_hp (by simp [one]) (by simp) (by simp [hn, hn0])
    · have h10' : ¬ 10 ≤ (x : Int) := by omega
      repeat' (first
        | (refine sw_seq ?_) | (refine sw_block ?_) | (refine sw_skip ?_) | (refine sw_ret ?_) | (refine sw_exit ?_)
        | (refine n_then ?_) | (refine r_then ?_) | (refine e_then ?_) | (refine n_block ?_) | (refine r_block ?_) | (refine e_block ?_) | (refine o_block rfl ?_)
        | (refine sw_run (by simp [-getElem?_pos, -List.reduceReplicate, List.getElem?_cons_zero, List.getElem?_cons_succ, h10, h10']; exact Is.mk _) ?_)
        | (refine sw_true (by simp [-getElem?_pos, -List.reduceReplicate, List.getElem?_cons_zero, List.getElem?_cons_succ, h10, h10']; exact Is.mk _) ?_) | (refine sw_false (by simp [-getElem?_pos, -List.reduceReplicate, List.getElem?_cons_zero, List.getElem?_cons_succ, h10, h10']; exact Is.mk _) ?_)
        | (refine sw_yes (by simp; exact Is.mk _) (by assumption) ?_)
        | (refine sw_no (by simp; exact Is.mk _) (by assumption) ?_)
        | (refine sw_if (by simp; exact Is.mk _) (fun _ => ?_) (fun _ => ?_)))
      refine end_val (by simp; exact Is.mk _) (by simp) ⟨rfl, ?_⟩
      rcases hx with ⟨rfl, rfl⟩ | ⟨_, _, rfl⟩
      · rw [one_dec (by omega)]
      · rfl

end Go.AM
