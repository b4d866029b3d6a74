/- Rounds, awake. -/
import Derived.Test.YtmljoaiedihoiaaS9
namespace Go.AM
set_option linter.unusedVariables false
set_option linter.unusedSimpArgs false
open Go Go.RowKit Go.Proofs

@[simp] theorem taParams : tAgg Try.prog 38 = some (true, 3) := by kernel_rfl
@[simp] theorem tzParams : tZero Try.prog 38 = some [.int .u64 0, .int .i64 0, .int .i64 0] := by kernel_rfl
@[simp] theorem tsParams : tStruct Try.prog 38 = some [(0, 1), (1, 1), (2, 1)] := by kernel_rfl
@[simp] theorem tfParams0 : tField Try.prog 38 0 = some (0, false, 1) := by kernel_rfl
@[simp] theorem tfParams1 : tField Try.prog 38 1 = some (1, false, 1) := by kernel_rfl
@[simp] theorem tfParams2 : tField Try.prog 38 2 = some (2, false, 1) := by kernel_rfl

theorem grow_length (ls : List (List Int)) (d : Nat) : (grow ls d).length = max ls.length d := by unfold grow; simp; omega
theorem newFrom_length {dp : List Int} {m : Nat} : ∀ {gs : List Gate} {ls : List (List Int)} {i : Nat}, ls.length ≤ m → (∀ (j : Nat) (g : Gate), gs[j]? = some g → g.kind = 6 → (dp.getD (i + j) 0).toNat ≤ m) → (newFrom dp ls i gs).length ≤ m
  | [], _, _, h, _ => h
  | g :: gs, ls, i, h, hd => by
    simp only [newFrom]
    split
    · rename_i h6
      refine newFrom_length ?_ fun j g' hg' h6' => by have := hd (j + 1) g' (by simpa using hg') h6'; rwa [show i + (j + 1) = i + 1 + j by omega] at this
      have := hd 0 g rfl h6
      simp only [bump, List.length_set, grow_length, Nat.add_zero] at this ⊢
      omega
    · exact newFrom_length h fun j g' hg' h6' => by have := hd (j + 1) g' (by simpa using hg') h6'; rwa [show i + (j + 1) = i + 1 + j by omega] at this
theorem newS_length {gs : List Gate} (h : depsOk gs) : (newS gs).length ≤ gs.length := by
  refine newFrom_length (by simp) fun j g hg h6 => ?_
  obtain ⟨v, h1, h2, h3⟩ := h.2 j g hg h6
  rw [Nat.zero_add, List.getD_eq_getElem?_getD, h1]
  simpa using h3

def roundsV (gs : List Gate) (os : List Int) : Int :=
  let r := 7 + ((newS gs).length : Int)
  let r := if 0 < trip gs then r + 9 else r
  let r := if 0 < cnt isBit gs then r + 2 else r
  if 0 < os.length then r + 1 else r

set_option maxHeartbeats 1000000 in
theorem rounds_spec (a b c p : Int) (gs : List Gate) (os : List Int) (hgs : Small gs.length) (hv : opsOk gs) (hdep : depsOk gs) : Pure Try.prog 18 [.agg [au a, ai b, ai c], circA p gs os] (ai (roundsV gs os)) := by
  refine pure_of Try.func18 rfl Try.ntmps18 (by simp) fun F n hF hn hn0 => ?_
  unfold circA
  have hl := newS_length hdep
  have hs := hgs.lt
  have w0 : IntKind.i64.wrap (7 + ((newS gs).length : Int)) = 7 + ((newS gs).length : Int) := i64_in (by omega)
  have w1 : IntKind.i64.wrap (7 + ((newS gs).length : Int) + 9) = 7 + ((newS gs).length : Int) + 9 := i64_in (by omega)
  have w2 : IntKind.i64.wrap (7 + ((newS gs).length : Int) + 2) = 7 + ((newS gs).length : Int) + 2 := i64_in (by omega)
  have w3 : IntKind.i64.wrap (7 + ((newS gs).length : Int) + 1) = 7 + ((newS gs).length : Int) + 1 := i64_in (by omega)
  have w4 : IntKind.i64.wrap (7 + ((newS gs).length : Int) + 9 + 2) = 7 + ((newS gs).length : Int) + 9 + 2 := i64_in (by omega)
  have w5 : IntKind.i64.wrap (7 + ((newS gs).length : Int) + 9 + 1) = 7 + ((newS gs).length : Int) + 9 + 1 := i64_in (by omega)
  have w6 : IntKind.i64.wrap (7 + ((newS gs).length : Int) + 2 + 1) = 7 + ((newS gs).length : Int) + 2 + 1 := i64_in (by omega)
  have w7 : IntKind.i64.wrap (7 + ((newS gs).length : Int) + 9 + 2 + 1) = 7 + ((newS gs).length : Int) + 9 + 2 + 1 := i64_in (by omega)
  repeat' (first
    | (refine sw_seq ?_) | (refine sw_block ?_) | (refine sw_skip ?_) | (refine sw_ret ?_) | (refine sw_exit ?_)
    | (refine n_then ?_) | (refine r_then ?_) | (refine e_then ?_) | (refine n_block ?_) | (refine r_block ?_) | (refine e_block ?_) | (refine o_block rfl ?_)
    | (refine sw_run (by simp []; exact Is.mk _) ?_)
    | (refine sw_true (by simp []; exact Is.mk _) ?_) | (refine sw_false (by simp []; exact Is.mk _) ?_)
    | (refine sw_yes (by simp; exact Is.mk _) (by assumption) ?_)
    | (refine sw_no (by simp; exact Is.mk _) (by assumption) ?_)
    | (refine sw_if (by simp; exact Is.mk _) (fun _ => ?_) (fun _ => ?_)))
  refine sw_ss ?_
  repeat (refine ss_op rfl (by simp []; exact Is.mk _) ?_)
  refine ss_pure rfl rfl rfl (by simp; exact Is.mk _) (by kernel_rfl) (new_spec p gs os hgs hv hdep) ?_
  refine ss_all (by simp [w0]; exact Is.mk _) ?_
  by_cases c1 : 0 < trip gs
  · by_cases c2 : 0 < cnt isBit gs
    · by_cases c3 : 0 < os.length
      · repeat' (first
          | (refine sw_seq ?_) | (refine sw_block ?_) | (refine sw_skip ?_) | (refine sw_ret ?_) | (refine sw_exit ?_)
          | (refine n_then ?_) | (refine r_then ?_) | (refine e_then ?_) | (refine n_block ?_) | (refine r_block ?_) | (refine e_block ?_) | (refine o_block rfl ?_)
          | (refine sw_run (by simp []; exact Is.mk _) ?_)
          | (refine sw_true (by simp []; exact Is.mk _) ?_) | (refine sw_false (by simp []; exact Is.mk _) ?_)
          | (refine sw_yes (by simp; exact Is.mk _) (by assumption) ?_)
          | (refine sw_no (by simp; exact Is.mk _) (by assumption) ?_)
          | (refine sw_if (by simp; exact Is.mk _) (fun _ => ?_) (fun _ => ?_)))
        refine sw_ss ?_
        repeat (refine ss_op rfl (by simp []; exact Is.mk _) ?_)
        refine ss_pure rfl rfl rfl (by simp; exact Is.mk _) (by kernel_rfl) (triples_spec p gs os hgs) ?_
        refine ss_all (by simp []; exact Is.mk _) ?_
        repeat' (first
          | (refine sw_seq ?_) | (refine sw_block ?_) | (refine sw_skip ?_) | (refine sw_ret ?_) | (refine sw_exit ?_)
          | (refine n_then ?_) | (refine r_then ?_) | (refine e_then ?_) | (refine n_block ?_) | (refine r_block ?_) | (refine e_block ?_) | (refine o_block rfl ?_)
          | (refine sw_run (by simp [c1, w1]; exact Is.mk _) ?_)
          | (refine sw_true (by simp [c1, w1]; exact Is.mk _) ?_) | (refine sw_false (by simp [c1, w1]; exact Is.mk _) ?_)
          | (refine sw_yes (by simp; exact Is.mk _) (by assumption) ?_)
          | (refine sw_no (by simp; exact Is.mk _) (by assumption) ?_)
          | (refine sw_if (by simp; exact Is.mk _) (fun _ => ?_) (fun _ => ?_)))
        refine sw_ss ?_
        repeat (refine ss_op rfl (by simp []; exact Is.mk _) ?_)
        refine ss_pure rfl rfl rfl (by simp; exact Is.mk _) (by kernel_rfl) (bits_spec p gs os hgs) ?_
        refine ss_all (by simp []; exact Is.mk _) ?_
        repeat' (first
          | (refine sw_seq ?_) | (refine sw_block ?_) | (refine sw_skip ?_) | (refine sw_ret ?_) | (refine sw_exit ?_)
          | (refine n_then ?_) | (refine r_then ?_) | (refine e_then ?_) | (refine n_block ?_) | (refine r_block ?_) | (refine e_block ?_) | (refine o_block rfl ?_)
          | (refine sw_run (by simp [c2, c3, w2, w4, w7]; exact Is.mk _) ?_)
          | (refine sw_true (by simp [c2, c3, w2, w4, w7]; exact Is.mk _) ?_) | (refine sw_false (by simp [c2, c3, w2, w4, w7]; exact Is.mk _) ?_)
          | (refine sw_yes (by simp; exact Is.mk _) (by assumption) ?_)
          | (refine sw_no (by simp; exact Is.mk _) (by assumption) ?_)
          | (refine sw_if (by simp; exact Is.mk _) (fun _ => ?_) (fun _ => ?_)))
        exact end_val (by simp; exact Is.mk _) (by simp [hn0, hn]) ⟨rfl, by simp [roundsV, c1, c2, c3, w0, w1, w2, w3, w4, w5, w6, w7]⟩
      · repeat' (first
          | (refine sw_seq ?_) | (refine sw_block ?_) | (refine sw_skip ?_) | (refine sw_ret ?_) | (refine sw_exit ?_)
          | (refine n_then ?_) | (refine r_then ?_) | (refine e_then ?_) | (refine n_block ?_) | (refine r_block ?_) | (refine e_block ?_) | (refine o_block rfl ?_)
          | (refine sw_run (by simp []; exact Is.mk _) ?_)
          | (refine sw_true (by simp []; exact Is.mk _) ?_) | (refine sw_false (by simp []; exact Is.mk _) ?_)
          | (refine sw_yes (by simp; exact Is.mk _) (by assumption) ?_)
          | (refine sw_no (by simp; exact Is.mk _) (by assumption) ?_)
          | (refine sw_if (by simp; exact Is.mk _) (fun _ => ?_) (fun _ => ?_)))
        refine sw_ss ?_
        repeat (refine ss_op rfl (by simp []; exact Is.mk _) ?_)
        refine ss_pure rfl rfl rfl (by simp; exact Is.mk _) (by kernel_rfl) (triples_spec p gs os hgs) ?_
        refine ss_all (by simp []; exact Is.mk _) ?_
        repeat' (first
          | (refine sw_seq ?_) | (refine sw_block ?_) | (refine sw_skip ?_) | (refine sw_ret ?_) | (refine sw_exit ?_)
          | (refine n_then ?_) | (refine r_then ?_) | (refine e_then ?_) | (refine n_block ?_) | (refine r_block ?_) | (refine e_block ?_) | (refine o_block rfl ?_)
          | (refine sw_run (by simp [c1, w1]; exact Is.mk _) ?_)
          | (refine sw_true (by simp [c1, w1]; exact Is.mk _) ?_) | (refine sw_false (by simp [c1, w1]; exact Is.mk _) ?_)
          | (refine sw_yes (by simp; exact Is.mk _) (by assumption) ?_)
          | (refine sw_no (by simp; exact Is.mk _) (by assumption) ?_)
          | (refine sw_if (by simp; exact Is.mk _) (fun _ => ?_) (fun _ => ?_)))
        refine sw_ss ?_
        repeat (refine ss_op rfl (by simp []; exact Is.mk _) ?_)
        refine ss_pure rfl rfl rfl (by simp; exact Is.mk _) (by kernel_rfl) (bits_spec p gs os hgs) ?_
        refine ss_all (by simp []; exact Is.mk _) ?_
        repeat' (first
          | (refine sw_seq ?_) | (refine sw_block ?_) | (refine sw_skip ?_) | (refine sw_ret ?_) | (refine sw_exit ?_)
          | (refine n_then ?_) | (refine r_then ?_) | (refine e_then ?_) | (refine n_block ?_) | (refine r_block ?_) | (refine e_block ?_) | (refine o_block rfl ?_)
          | (refine sw_run (by simp [c2, c3, w2, w4, w7]; exact Is.mk _) ?_)
          | (refine sw_true (by simp [c2, c3, w2, w4, w7]; exact Is.mk _) ?_) | (refine sw_false (by simp [c2, c3, w2, w4, w7]; exact Is.mk _) ?_)
          | (refine sw_yes (by simp; exact Is.mk _) (by assumption) ?_)
          | (refine sw_no (by simp; exact Is.mk _) (by assumption) ?_)
          | (refine sw_if (by simp; exact Is.mk _) (fun _ => ?_) (fun _ => ?_)))
        exact end_val (by simp; exact Is.mk _) (by simp [hn0, hn]) ⟨rfl, by simp [roundsV, c1, c2, c3, w0, w1, w2, w3, w4, w5, w6, w7]⟩
    · by_cases c3 : 0 < os.length
      · repeat' (first
          | (refine sw_seq ?_) | (refine sw_block ?_) | (refine sw_skip ?_) | (refine sw_ret ?_) | (refine sw_exit ?_)
          | (refine n_then ?_) | (refine r_then ?_) | (refine e_then ?_) | (refine n_block ?_) | (refine r_block ?_) | (refine e_block ?_) | (refine o_block rfl ?_)
          | (refine sw_run (by simp []; exact Is.mk _) ?_)
          | (refine sw_true (by simp []; exact Is.mk _) ?_) | (refine sw_false (by simp []; exact Is.mk _) ?_)
          | (refine sw_yes (by simp; exact Is.mk _) (by assumption) ?_)
          | (refine sw_no (by simp; exact Is.mk _) (by assumption) ?_)
          | (refine sw_if (by simp; exact Is.mk _) (fun _ => ?_) (fun _ => ?_)))
        refine sw_ss ?_
        repeat (refine ss_op rfl (by simp []; exact Is.mk _) ?_)
        refine ss_pure rfl rfl rfl (by simp; exact Is.mk _) (by kernel_rfl) (triples_spec p gs os hgs) ?_
        refine ss_all (by simp []; exact Is.mk _) ?_
        repeat' (first
          | (refine sw_seq ?_) | (refine sw_block ?_) | (refine sw_skip ?_) | (refine sw_ret ?_) | (refine sw_exit ?_)
          | (refine n_then ?_) | (refine r_then ?_) | (refine e_then ?_) | (refine n_block ?_) | (refine r_block ?_) | (refine e_block ?_) | (refine o_block rfl ?_)
          | (refine sw_run (by simp [c1, w1]; exact Is.mk _) ?_)
          | (refine sw_true (by simp [c1, w1]; exact Is.mk _) ?_) | (refine sw_false (by simp [c1, w1]; exact Is.mk _) ?_)
          | (refine sw_yes (by simp; exact Is.mk _) (by assumption) ?_)
          | (refine sw_no (by simp; exact Is.mk _) (by assumption) ?_)
          | (refine sw_if (by simp; exact Is.mk _) (fun _ => ?_) (fun _ => ?_)))
        refine sw_ss ?_
        repeat (refine ss_op rfl (by simp []; exact Is.mk _) ?_)
        refine ss_pure rfl rfl rfl (by simp; exact Is.mk _) (by kernel_rfl) (bits_spec p gs os hgs) ?_
        refine ss_all (by simp []; exact Is.mk _) ?_
        repeat' (first
          | (refine sw_seq ?_) | (refine sw_block ?_) | (refine sw_skip ?_) | (refine sw_ret ?_) | (refine sw_exit ?_)
          | (refine n_then ?_) | (refine r_then ?_) | (refine e_then ?_) | (refine n_block ?_) | (refine r_block ?_) | (refine e_block ?_) | (refine o_block rfl ?_)
          | (refine sw_run (by simp [c2, c3, w5]; exact Is.mk _) ?_)
          | (refine sw_true (by simp [c2, c3, w5]; exact Is.mk _) ?_) | (refine sw_false (by simp [c2, c3, w5]; exact Is.mk _) ?_)
          | (refine sw_yes (by simp; exact Is.mk _) (by assumption) ?_)
          | (refine sw_no (by simp; exact Is.mk _) (by assumption) ?_)
          | (refine sw_if (by simp; exact Is.mk _) (fun _ => ?_) (fun _ => ?_)))
        exact end_val (by simp; exact Is.mk _) (by simp [hn0, hn]) ⟨rfl, by simp [roundsV, c1, c2, c3, w0, w1, w2, w3, w4, w5, w6, w7]⟩
      · repeat' (first
          | (refine sw_seq ?_) | (refine sw_block ?_) | (refine sw_skip ?_) | (refine sw_ret ?_) | (refine sw_exit ?_)
          | (refine n_then ?_) | (refine r_then ?_) | (refine e_then ?_) | (refine n_block ?_) | (refine r_block ?_) | (refine e_block ?_) | (refine o_block rfl ?_)
          | (refine sw_run (by simp []; exact Is.mk _) ?_)
          | (refine sw_true (by simp []; exact Is.mk _) ?_) | (refine sw_false (by simp []; exact Is.mk _) ?_)
          | (refine sw_yes (by simp; exact Is.mk _) (by assumption) ?_)
          | (refine sw_no (by simp; exact Is.mk _) (by assumption) ?_)
          | (refine sw_if (by simp; exact Is.mk _) (fun _ => ?_) (fun _ => ?_)))
        refine sw_ss ?_
        repeat (refine ss_op rfl (by simp []; exact Is.mk _) ?_)
        refine ss_pure rfl rfl rfl (by simp; exact Is.mk _) (by kernel_rfl) (triples_spec p gs os hgs) ?_
        refine ss_all (by simp []; exact Is.mk _) ?_
        repeat' (first
          | (refine sw_seq ?_) | (refine sw_block ?_) | (refine sw_skip ?_) | (refine sw_ret ?_) | (refine sw_exit ?_)
          | (refine n_then ?_) | (refine r_then ?_) | (refine e_then ?_) | (refine n_block ?_) | (refine r_block ?_) | (refine e_block ?_) | (refine o_block rfl ?_)
          | (refine sw_run (by simp [c1, w1]; exact Is.mk _) ?_)
          | (refine sw_true (by simp [c1, w1]; exact Is.mk _) ?_) | (refine sw_false (by simp [c1, w1]; exact Is.mk _) ?_)
          | (refine sw_yes (by simp; exact Is.mk _) (by assumption) ?_)
          | (refine sw_no (by simp; exact Is.mk _) (by assumption) ?_)
          | (refine sw_if (by simp; exact Is.mk _) (fun _ => ?_) (fun _ => ?_)))
        refine sw_ss ?_
        repeat (refine ss_op rfl (by simp []; exact Is.mk _) ?_)
        refine ss_pure rfl rfl rfl (by simp; exact Is.mk _) (by kernel_rfl) (bits_spec p gs os hgs) ?_
        refine ss_all (by simp []; exact Is.mk _) ?_
        repeat' (first
          | (refine sw_seq ?_) | (refine sw_block ?_) | (refine sw_skip ?_) | (refine sw_ret ?_) | (refine sw_exit ?_)
          | (refine n_then ?_) | (refine r_then ?_) | (refine e_then ?_) | (refine n_block ?_) | (refine r_block ?_) | (refine e_block ?_) | (refine o_block rfl ?_)
          | (refine sw_run (by simp [c2, c3, w5]; exact Is.mk _) ?_)
          | (refine sw_true (by simp [c2, c3, w5]; exact Is.mk _) ?_) | (refine sw_false (by simp [c2, c3, w5]; exact Is.mk _) ?_)
          | (refine sw_yes (by simp; exact Is.mk _) (by assumption) ?_)
          | (refine sw_no (by simp; exact Is.mk _) (by assumption) ?_)
          | (refine sw_if (by simp; exact Is.mk _) (fun _ => ?_) (fun _ => ?_)))
        exact end_val (by simp; exact Is.mk _) (by simp [hn0, hn]) ⟨rfl, by simp [roundsV, c1, c2, c3, w0, w1, w2, w3, w4, w5, w6, w7]⟩
  · by_cases c2 : 0 < cnt isBit gs
    · exfalso; unfold trip at c1; omega
    · by_cases c3 : 0 < os.length
      · repeat' (first
          | (refine sw_seq ?_) | (refine sw_block ?_) | (refine sw_skip ?_) | (refine sw_ret ?_) | (refine sw_exit ?_)
          | (refine n_then ?_) | (refine r_then ?_) | (refine e_then ?_) | (refine n_block ?_) | (refine r_block ?_) | (refine e_block ?_) | (refine o_block rfl ?_)
          | (refine sw_run (by simp []; exact Is.mk _) ?_)
          | (refine sw_true (by simp []; exact Is.mk _) ?_) | (refine sw_false (by simp []; exact Is.mk _) ?_)
          | (refine sw_yes (by simp; exact Is.mk _) (by assumption) ?_)
          | (refine sw_no (by simp; exact Is.mk _) (by assumption) ?_)
          | (refine sw_if (by simp; exact Is.mk _) (fun _ => ?_) (fun _ => ?_)))
        refine sw_ss ?_
        repeat (refine ss_op rfl (by simp []; exact Is.mk _) ?_)
        refine ss_pure rfl rfl rfl (by simp; exact Is.mk _) (by kernel_rfl) (triples_spec p gs os hgs) ?_
        refine ss_all (by simp []; exact Is.mk _) ?_
        repeat' (first
          | (refine sw_seq ?_) | (refine sw_block ?_) | (refine sw_skip ?_) | (refine sw_ret ?_) | (refine sw_exit ?_)
          | (refine n_then ?_) | (refine r_then ?_) | (refine e_then ?_) | (refine n_block ?_) | (refine r_block ?_) | (refine e_block ?_) | (refine o_block rfl ?_)
          | (refine sw_run (by simp [c1]; exact Is.mk _) ?_)
          | (refine sw_true (by simp [c1]; exact Is.mk _) ?_) | (refine sw_false (by simp [c1]; exact Is.mk _) ?_)
          | (refine sw_yes (by simp; exact Is.mk _) (by assumption) ?_)
          | (refine sw_no (by simp; exact Is.mk _) (by assumption) ?_)
          | (refine sw_if (by simp; exact Is.mk _) (fun _ => ?_) (fun _ => ?_)))
        refine sw_ss ?_
        repeat (refine ss_op rfl (by simp []; exact Is.mk _) ?_)
        refine ss_pure rfl rfl rfl (by simp; exact Is.mk _) (by kernel_rfl) (bits_spec p gs os hgs) ?_
        refine ss_all (by simp []; exact Is.mk _) ?_
        repeat' (first
          | (refine sw_seq ?_) | (refine sw_block ?_) | (refine sw_skip ?_) | (refine sw_ret ?_) | (refine sw_exit ?_)
          | (refine n_then ?_) | (refine r_then ?_) | (refine e_then ?_) | (refine n_block ?_) | (refine r_block ?_) | (refine e_block ?_) | (refine o_block rfl ?_)
          | (refine sw_run (by simp [c2, c3, w3]; exact Is.mk _) ?_)
          | (refine sw_true (by simp [c2, c3, w3]; exact Is.mk _) ?_) | (refine sw_false (by simp [c2, c3, w3]; exact Is.mk _) ?_)
          | (refine sw_yes (by simp; exact Is.mk _) (by assumption) ?_)
          | (refine sw_no (by simp; exact Is.mk _) (by assumption) ?_)
          | (refine sw_if (by simp; exact Is.mk _) (fun _ => ?_) (fun _ => ?_)))
        exact end_val (by simp; exact Is.mk _) (by simp [hn0, hn]) ⟨rfl, by simp [roundsV, c1, c2, c3, w0, w1, w2, w3, w4, w5, w6, w7]⟩
      · repeat' (first
          | (refine sw_seq ?_) | (refine sw_block ?_) | (refine sw_skip ?_) | (refine sw_ret ?_) | (refine sw_exit ?_)
          | (refine n_then ?_) | (refine r_then ?_) | (refine e_then ?_) | (refine n_block ?_) | (refine r_block ?_) | (refine e_block ?_) | (refine o_block rfl ?_)
          | (refine sw_run (by simp []; exact Is.mk _) ?_)
          | (refine sw_true (by simp []; exact Is.mk _) ?_) | (refine sw_false (by simp []; exact Is.mk _) ?_)
          | (refine sw_yes (by simp; exact Is.mk _) (by assumption) ?_)
          | (refine sw_no (by simp; exact Is.mk _) (by assumption) ?_)
          | (refine sw_if (by simp; exact Is.mk _) (fun _ => ?_) (fun _ => ?_)))
        refine sw_ss ?_
        repeat (refine ss_op rfl (by simp []; exact Is.mk _) ?_)
        refine ss_pure rfl rfl rfl (by simp; exact Is.mk _) (by kernel_rfl) (triples_spec p gs os hgs) ?_
        refine ss_all (by simp []; exact Is.mk _) ?_
        repeat' (first
          | (refine sw_seq ?_) | (refine sw_block ?_) | (refine sw_skip ?_) | (refine sw_ret ?_) | (refine sw_exit ?_)
          | (refine n_then ?_) | (refine r_then ?_) | (refine e_then ?_) | (refine n_block ?_) | (refine r_block ?_) | (refine e_block ?_) | (refine o_block rfl ?_)
          | (refine sw_run (by simp [c1]; exact Is.mk _) ?_)
          | (refine sw_true (by simp [c1]; exact Is.mk _) ?_) | (refine sw_false (by simp [c1]; exact Is.mk _) ?_)
          | (refine sw_yes (by simp; exact Is.mk _) (by assumption) ?_)
          | (refine sw_no (by simp; exact Is.mk _) (by assumption) ?_)
          | (refine sw_if (by simp; exact Is.mk _) (fun _ => ?_) (fun _ => ?_)))
        refine sw_ss ?_
        repeat (refine ss_op rfl (by simp []; exact Is.mk _) ?_)
        refine ss_pure rfl rfl rfl (by simp; exact Is.mk _) (by kernel_rfl) (bits_spec p gs os hgs) ?_
        refine ss_all (by simp []; exact Is.mk _) ?_
        repeat' (first
          | (refine sw_seq ?_) | (refine sw_block ?_) | (refine sw_skip ?_) | (refine sw_ret ?_) | (refine sw_exit ?_)
          | (refine n_then ?_) | (refine r_then ?_) | (refine e_then ?_) | (refine n_block ?_) | (refine r_block ?_) | (refine e_block ?_) | (refine o_block rfl ?_)
          | (refine sw_run (by simp [c2, c3, w3]; exact Is.mk _) ?_)
          | (refine sw_true (by simp [c2, c3, w3]; exact Is.mk _) ?_) | (refine sw_false (by simp [c2, c3, w3]; exact Is.mk _) ?_)
          | (refine sw_yes (by simp; exact Is.mk _) (by assumption) ?_)
          | (refine sw_no (by simp; exact Is.mk _) (by assumption) ?_)
          | (refine sw_if (by simp; exact Is.mk _) (fun _ => ?_) (fun _ => ?_)))
        exact end_val (by simp; exact Is.mk _) (by simp [hn0, hn]) ⟨rfl, by simp [roundsV, c1, c2, c3, w0, w1, w2, w3, w4, w5, w6, w7]⟩

end Go.AM
