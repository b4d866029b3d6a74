/- named and names, depths, counts. -/
import Derived.Test.YtngghimofbefjaaGreatDoorS0
namespace Go.AM
set_option linter.unusedVariables false
set_option linter.unusedSimpArgs false
open Go Go.RowKit Go.Proofs

def namedL (g : Gate) : List Int := if g.kind = 3 ∨ g.kind = 4 ∨ g.kind = 6 then [g.a, g.b] else if g.kind = 5 then [g.a] else []

theorem named_spec (g : Gate) : Pure Tryz.prog 139 [gateA g] (.p (.sl 1 (ints (namedL g)))) := by
  refine pure_of Tryz.func139 rfl Tryz.ntmps139 (by simp) fun F n hF hn hn0 => ?_
  unfold gateA
  repeat' (first
    | (refine sw_seq ?_) | (refine sw_block ?_) | (refine sw_skip ?_) | (refine sw_ret ?_) | (refine sw_exit ?_)
    | (refine n_then ?_) | (refine r_then ?_) | (refine e_then ?_) | (refine n_block ?_) | (refine r_block ?_) | (refine e_block ?_) | (refine o_block rfl ?_)
    | (refine sw_run (by simp []; exact Is.mk _) ?_)
    | (refine sw_true (by simp []; exact Is.mk _) ?_) | (refine sw_false (by simp []; exact Is.mk _) ?_)
    | (refine sw_yes (by simp; exact Is.mk _) (by assumption) ?_)
    | (refine sw_no (by simp; exact Is.mk _) (by assumption) ?_)
    | (refine sw_if (by simp; exact Is.mk _) (fun _ => ?_) (fun _ => ?_)))
  · exact end_own (es := ints (namedL g)) (by simp; exact Is.mk _) (by simp; exact Is.mk _) (by simp [ints, namedL, *]) (by simp [namedL, *]) (hn 1) (by simp [hn0, hn]) ⟨rfl, rfl⟩
  · exact end_own (es := ints (namedL g)) (by simp; exact Is.mk _) (by simp; exact Is.mk _) (by simp [ints, namedL, *]) (by simp [namedL, *]) (hn 1) (by simp [hn0, hn]) ⟨rfl, rfl⟩
  · exact end_own (es := ints (namedL g)) (by simp; exact Is.mk _) (by simp; exact Is.mk _) (by simp [ints, namedL, *]) (by simp [namedL, *]) (hn 1) (by simp [hn0, hn]) ⟨rfl, rfl⟩
  · exact end_own (es := ints (namedL g)) (by simp; exact Is.mk _) (by simp; exact Is.mk _) (by simp [ints, namedL, *]) (by simp [namedL, *]) (hn 1) (by simp [hn0, hn]) ⟨rfl, rfl⟩
  · exact end_nil (sz := 1) (by simp; exact Is.mk _) (by simp [hn0]) ⟨rfl, by simp [ints, namedL, *]⟩

/-- The gates of a kind, counted. -/
def cnt (p : Gate → Bool) (gs : List Gate) : Nat := gs.countP p
theorem cnt_le (p : Gate → Bool) (gs : List Gate) : cnt p gs ≤ gs.length := List.countP_le_length
def isBit (g : Gate) : Bool := decide (g.kind = 1) && decide (g.k = 1)
def isMul (g : Gate) : Bool := decide (g.kind = 6)

theorem cnt_snoc {p : Gate → Bool} {gs : List Gate} {k : Nat} {g : Gate} (h : gs[k]? = some g) : cnt p (gs.take (k + 1)) = cnt p (gs.take k) + if p g then 1 else 0 := by
  unfold cnt; rw [take_snoc h, List.countP_append]; simp [List.countP_cons]
theorem cnt_wrap {p : Gate → Bool} {gs : List Gate} {k : Nat} (h : k < gs.length) (hl : Small gs.length) : IntKind.i64.wrap ((cnt p (gs.take k) : Int) + 1) = ((cnt p (gs.take k) + 1 : Nat) : Int) := by
  have h1 := cnt_le p (gs.take k)
  have h2 : (gs.take k).length ≤ k := by simp; omega
  exact wrap_succ (show cnt p (gs.take k) < gs.length by omega) hl

theorem bits_spec (p : Int) (gs : List Gate) (os : List Int) (hl : Small gs.length) : Pure Tryz.prog 40 [circA p gs os] (ai (cnt isBit gs)) := by
  refine pure_of Tryz.func40 rfl Tryz.ntmps40 (by simp) fun F n hF hn hn0 => ?_
  unfold circA
  repeat' (first
    | (refine sw_seq ?_) | (refine sw_block ?_) | (refine sw_skip ?_) | (refine sw_ret ?_) | (refine sw_exit ?_)
    | (refine n_then ?_) | (refine r_then ?_) | (refine e_then ?_) | (refine n_block ?_) | (refine r_block ?_) | (refine e_block ?_) | (refine o_block rfl ?_)
    | (refine sw_run (by simp []; exact Is.mk _) ?_)
    | (refine sw_true (by simp []; exact Is.mk _) ?_) | (refine sw_false (by simp []; exact Is.mk _) ?_)
    | (refine sw_yes (by simp; exact Is.mk _) (by assumption) ?_)
    | (refine sw_no (by simp; exact Is.mk _) (by assumption) ?_)
    | (refine sw_if (by simp; exact Is.mk _) (fun _ => ?_) (fun _ => ?_)))
  refine sw_loopI (α := Nat) (fun k => [(1, .ptr n 0 0 0), (3, ai (cnt isBit (gs.take k))), (7, gatesV gs), (8, ai gs.length), (9, ai k)])
    (fun k => [(n, circB p gs os)]) (fun _ => n + 1)
    (fun k => k ≤ gs.length) (fun k => gs.length - k) 0 (by simp) ?_ ?_ ?_
  · intro _
    exact weak_cut_hp (by simp [cnt]) (by simp) (by simp)
  · intro x
    exact fresh_of hF (by omega) (by simp)
  · rintro k hk
    by_cases hlt : k < gs.length
    · obtain ⟨g, hg⟩ := get_lt hlt
      have hw := wrap_succ hlt hl
      have hc := cnt_wrap (p := isBit) hlt hl
      have ht := cnt_snoc (p := isBit) hg
      by_cases h1 : g.kind = 1
      · repeat' (first
          | (refine sw_seq ?_) | (refine sw_block ?_) | (refine sw_skip ?_) | (refine sw_ret ?_) | (refine sw_exit ?_)
          | (refine n_then ?_) | (refine r_then ?_) | (refine e_then ?_) | (refine n_block ?_) | (refine r_block ?_) | (refine e_block ?_) | (refine o_block rfl ?_)
          | (refine sw_run (by simp [hg, gateC, hw, hc, h1]; exact Is.mk _) ?_)
          | (refine sw_true (by simp [hg, gateC, hw, hc, h1]; exact Is.mk _) ?_) | (refine sw_false (by simp [hg, gateC, hw, hc, h1]; exact Is.mk _) ?_)
          | (refine sw_yes (by simp; exact Is.mk _) (by assumption) ?_)
          | (refine sw_no (by simp; exact Is.mk _) (by assumption) ?_)
          | (refine sw_if (by simp; exact Is.mk _) (fun _ => ?_) (fun _ => ?_)))
        · exact ⟨k + 1, by omega, by omega, weak_cut_hp (by simp [ht, isBit, *]) (by simp) (by simp [hn])⟩
        · exact ⟨k + 1, by omega, by omega, weak_cut_hp (by simp [ht, isBit, *]) (by simp) (by simp [hn])⟩
      · repeat' (first
          | (refine sw_seq ?_) | (refine sw_block ?_) | (refine sw_skip ?_) | (refine sw_ret ?_) | (refine sw_exit ?_)
          | (refine n_then ?_) | (refine r_then ?_) | (refine e_then ?_) | (refine n_block ?_) | (refine r_block ?_) | (refine e_block ?_) | (refine o_block rfl ?_)
          | (refine sw_run (by simp [hg, gateC, hw, hc, h1]; exact Is.mk _) ?_)
          | (refine sw_true (by simp [hg, gateC, hw, hc, h1]; exact Is.mk _) ?_) | (refine sw_false (by simp [hg, gateC, hw, hc, h1]; exact Is.mk _) ?_)
          | (refine sw_yes (by simp; exact Is.mk _) (by assumption) ?_)
          | (refine sw_no (by simp; exact Is.mk _) (by assumption) ?_)
          | (refine sw_if (by simp; exact Is.mk _) (fun _ => ?_) (fun _ => ?_)))
        exact ⟨k + 1, by omega, by omega, weak_cut_hp (by simp [ht, isBit, *]) (by simp) (by simp [hn])⟩
    · obtain rfl : k = gs.length := by omega
      repeat' (first
        | (refine sw_seq ?_) | (refine sw_block ?_) | (refine sw_skip ?_) | (refine sw_ret ?_) | (refine sw_exit ?_)
        | (refine n_then ?_) | (refine r_then ?_) | (refine e_then ?_) | (refine n_block ?_) | (refine r_block ?_) | (refine e_block ?_) | (refine o_block rfl ?_)
        | (refine sw_run (by simp []; exact Is.mk _) ?_)
        | (refine sw_true (by simp []; exact Is.mk _) ?_) | (refine sw_false (by simp []; exact Is.mk _) ?_)
        | (refine sw_yes (by simp; exact Is.mk _) (by assumption) ?_)
        | (refine sw_no (by simp; exact Is.mk _) (by assumption) ?_)
        | (refine sw_if (by simp; exact Is.mk _) (fun _ => ?_) (fun _ => ?_)))
      exact end_val (by simp; exact Is.mk _) (by simp [hn0]) ⟨rfl, by simp [cnt]⟩

theorem rbits_spec (p : Int) (gs : List Gate) (os : List Int) (hl : Small gs.length) : Pure Tryz.prog 44 [circA p gs os] (ai (cnt isBit gs)) := by
  refine pure_of Tryz.func44 rfl Tryz.ntmps44 (by simp) fun F n hF hn hn0 => ?_
  unfold circA
  repeat' (first
    | (refine sw_seq ?_) | (refine sw_block ?_) | (refine sw_skip ?_) | (refine sw_ret ?_) | (refine sw_exit ?_)
    | (refine n_then ?_) | (refine r_then ?_) | (refine e_then ?_) | (refine n_block ?_) | (refine r_block ?_) | (refine e_block ?_) | (refine o_block rfl ?_)
    | (refine sw_run (by simp []; exact Is.mk _) ?_)
    | (refine sw_true (by simp []; exact Is.mk _) ?_) | (refine sw_false (by simp []; exact Is.mk _) ?_)
    | (refine sw_yes (by simp; exact Is.mk _) (by assumption) ?_)
    | (refine sw_no (by simp; exact Is.mk _) (by assumption) ?_)
    | (refine sw_if (by simp; exact Is.mk _) (fun _ => ?_) (fun _ => ?_)))
  refine sw_loopI (α := Nat) (fun k => [(1, .ptr n 0 0 0), (3, ai (cnt isBit (gs.take k))), (4, ai k)])
    (fun k => [(n, circB p gs os)]) (fun _ => n + 1)
    (fun k => k ≤ gs.length) (fun k => gs.length - k) 0 (by simp) ?_ ?_ ?_
  · intro _
    exact weak_cut_hp (by simp [cnt]) (by simp) (by simp)
  · intro x
    exact fresh_of hF (by omega) (by simp)
  · rintro k hk
    by_cases hlt : k < gs.length
    · obtain ⟨g, hg⟩ := get_lt hlt
      have hw := wrap_succ hlt hl
      have hc := cnt_wrap (p := isBit) hlt hl
      have ht := cnt_snoc (p := isBit) hg
      by_cases h1 : g.kind = 1
      · repeat' (first
          | (refine sw_seq ?_) | (refine sw_block ?_) | (refine sw_skip ?_) | (refine sw_ret ?_) | (refine sw_exit ?_)
          | (refine n_then ?_) | (refine r_then ?_) | (refine e_then ?_) | (refine n_block ?_) | (refine r_block ?_) | (refine e_block ?_) | (refine o_block rfl ?_)
          | (refine sw_run (by simp [hg, gateC, hw, hc, h1]; exact Is.mk _) ?_)
          | (refine sw_true (by simp [hg, gateC, hw, hc, h1]; exact Is.mk _) ?_) | (refine sw_false (by simp [hg, gateC, hw, hc, h1]; exact Is.mk _) ?_)
          | (refine sw_yes (by simp; exact Is.mk _) (by assumption) ?_)
          | (refine sw_no (by simp; exact Is.mk _) (by assumption) ?_)
          | (refine sw_if (by simp; exact Is.mk _) (fun _ => ?_) (fun _ => ?_)))
        · exact ⟨k + 1, by omega, by omega, weak_cut_hp (by simp [ht, isBit, *]) (by simp) (by simp [hn])⟩
        · exact ⟨k + 1, by omega, by omega, weak_cut_hp (by simp [ht, isBit, *]) (by simp) (by simp [hn])⟩
      · repeat' (first
          | (refine sw_seq ?_) | (refine sw_block ?_) | (refine sw_skip ?_) | (refine sw_ret ?_) | (refine sw_exit ?_)
          | (refine n_then ?_) | (refine r_then ?_) | (refine e_then ?_) | (refine n_block ?_) | (refine r_block ?_) | (refine e_block ?_) | (refine o_block rfl ?_)
          | (refine sw_run (by simp [hg, gateC, hw, hc, h1]; exact Is.mk _) ?_)
          | (refine sw_true (by simp [hg, gateC, hw, hc, h1]; exact Is.mk _) ?_) | (refine sw_false (by simp [hg, gateC, hw, hc, h1]; exact Is.mk _) ?_)
          | (refine sw_yes (by simp; exact Is.mk _) (by assumption) ?_)
          | (refine sw_no (by simp; exact Is.mk _) (by assumption) ?_)
          | (refine sw_if (by simp; exact Is.mk _) (fun _ => ?_) (fun _ => ?_)))
        exact ⟨k + 1, by omega, by omega, weak_cut_hp (by simp [ht, isBit, *]) (by simp) (by simp [hn])⟩
    · obtain rfl : k = gs.length := by omega
      repeat' (first
        | (refine sw_seq ?_) | (refine sw_block ?_) | (refine sw_skip ?_) | (refine sw_ret ?_) | (refine sw_exit ?_)
        | (refine n_then ?_) | (refine r_then ?_) | (refine e_then ?_) | (refine n_block ?_) | (refine r_block ?_) | (refine e_block ?_) | (refine o_block rfl ?_)
        | (refine sw_run (by simp []; exact Is.mk _) ?_)
        | (refine sw_true (by simp []; exact Is.mk _) ?_) | (refine sw_false (by simp []; exact Is.mk _) ?_)
        | (refine sw_yes (by simp; exact Is.mk _) (by assumption) ?_)
        | (refine sw_no (by simp; exact Is.mk _) (by assumption) ?_)
        | (refine sw_if (by simp; exact Is.mk _) (fun _ => ?_) (fun _ => ?_)))
      exact end_val (by simp; exact Is.mk _) (by simp [hn0]) ⟨rfl, by simp [cnt]⟩

theorem ismul_spec (g : Gate) : Pure Tryz.prog 73 [gateA g] (ab (isMul g)) := by
  refine pure_of Tryz.func73 rfl Tryz.ntmps73 (by simp) fun F n hF hn hn0 => ?_
  unfold gateA
  repeat' (first
    | (refine sw_seq ?_) | (refine sw_block ?_) | (refine sw_skip ?_) | (refine sw_ret ?_) | (refine sw_exit ?_)
    | (refine n_then ?_) | (refine r_then ?_) | (refine e_then ?_) | (refine n_block ?_) | (refine r_block ?_) | (refine e_block ?_) | (refine o_block rfl ?_)
    | (refine sw_run (by simp []; exact Is.mk _) ?_)
    | (refine sw_true (by simp []; exact Is.mk _) ?_) | (refine sw_false (by simp []; exact Is.mk _) ?_)
    | (refine sw_yes (by simp; exact Is.mk _) (by assumption) ?_)
    | (refine sw_no (by simp; exact Is.mk _) (by assumption) ?_)
    | (refine sw_if (by simp; exact Is.mk _) (fun _ => ?_) (fun _ => ?_)))
  exact end_val (by simp; exact Is.mk _) (by simp [hn0]) ⟨rfl, by simp [isMul]⟩

theorem count_spec (p : Int) (gs : List Gate) (os : List Int) (hl : Small gs.length) : Pure Tryz.prog 42 [circA p gs os, .p (.v (.func (.func 73) #[] #[]))] (ai (cnt isMul gs)) := by
  refine pure_of Tryz.func42 rfl Tryz.ntmps42 (by simp) fun F n hF hn hn0 => ?_
  unfold circA
  repeat' (first
    | (refine sw_seq ?_) | (refine sw_block ?_) | (refine sw_skip ?_) | (refine sw_ret ?_) | (refine sw_exit ?_)
    | (refine n_then ?_) | (refine r_then ?_) | (refine e_then ?_) | (refine n_block ?_) | (refine r_block ?_) | (refine e_block ?_) | (refine o_block rfl ?_)
    | (refine sw_run (by simp []; exact Is.mk _) ?_)
    | (refine sw_true (by simp []; exact Is.mk _) ?_) | (refine sw_false (by simp []; exact Is.mk _) ?_)
    | (refine sw_yes (by simp; exact Is.mk _) (by assumption) ?_)
    | (refine sw_no (by simp; exact Is.mk _) (by assumption) ?_)
    | (refine sw_if (by simp; exact Is.mk _) (fun _ => ?_) (fun _ => ?_)))
  refine sw_loopI (α := Nat) (fun k => [(1, .p (.v (.func (.func 73) #[] #[]))), (2, .ptr n 0 0 0), (5, ai (cnt isMul (gs.take k))), (9, gatesV gs), (10, ai gs.length), (11, ai k)])
    (fun k => [(n, circB p gs os)]) (fun _ => n + 1)
    (fun k => k ≤ gs.length) (fun k => gs.length - k) 0 (by simp) ?_ ?_ ?_
  · intro _
    exact weak_cut_hp (by simp [cnt]) (by simp) (by simp)
  · intro x
    exact fresh_of hF (by omega) (by simp)
  · rintro k hk
    by_cases hlt : k < gs.length
    · obtain ⟨g, hg⟩ := get_lt hlt
      have hw := wrap_succ hlt hl
      have hc := cnt_wrap (p := isMul) hlt hl
      have ht := cnt_snoc (p := isMul) hg
      repeat' (first
        | (refine sw_seq ?_) | (refine sw_block ?_) | (refine sw_skip ?_) | (refine sw_ret ?_) | (refine sw_exit ?_)
        | (refine n_then ?_) | (refine r_then ?_) | (refine e_then ?_) | (refine n_block ?_) | (refine r_block ?_) | (refine e_block ?_) | (refine o_block rfl ?_)
        | (refine sw_run (by simp [hg, gateC]; exact Is.mk _) ?_)
        | (refine sw_true (by simp [hg, gateC]; exact Is.mk _) ?_) | (refine sw_false (by simp [hg, gateC]; exact Is.mk _) ?_)
        | (refine sw_yes (by simp; exact Is.mk _) (by assumption) ?_)
        | (refine sw_no (by simp; exact Is.mk _) (by assumption) ?_)
        | (refine sw_if (by simp; exact Is.mk _) (fun _ => ?_) (fun _ => ?_)))
      refine sw_ss ?_
      repeat (refine ss_op rfl (by simp []; exact Is.mk _) ?_)
      refine ss_pure rfl rfl rfl (by simp; exact Is.mk _) (by kernel_rfl) (ismul_spec g) ?_
      refine ss_all (by simp []; exact Is.mk _) ?_
      repeat' (first
        | (refine sw_seq ?_) | (refine sw_block ?_) | (refine sw_skip ?_) | (refine sw_ret ?_) | (refine sw_exit ?_)
        | (refine n_then ?_) | (refine r_then ?_) | (refine e_then ?_) | (refine n_block ?_) | (refine r_block ?_) | (refine e_block ?_) | (refine o_block rfl ?_)
        | (refine sw_run (by simp [hw, hc]; exact Is.mk _) ?_)
        | (refine sw_true (by simp [hw, hc]; exact Is.mk _) ?_) | (refine sw_false (by simp [hw, hc]; exact Is.mk _) ?_)
        | (refine sw_yes (by simp; exact Is.mk _) (by assumption) ?_)
        | (refine sw_no (by simp; exact Is.mk _) (by assumption) ?_)
        | (refine sw_if (by simp; exact Is.mk _) (fun _ => ?_) (fun _ => ?_)))
      · exact ⟨k + 1, by omega, by omega, weak_cut_hp (by simp [ht, isMul, *]) (by simp) (by simp [hn])⟩
      · exact ⟨k + 1, by omega, by omega, weak_cut_hp (by simp [ht, isMul, *]) (by simp) (by simp [hn])⟩
    · obtain rfl : k = gs.length := by omega
      repeat' (first
        | (refine sw_seq ?_) | (refine sw_block ?_) | (refine sw_skip ?_) | (refine sw_ret ?_) | (refine sw_exit ?_)
        | (refine n_then ?_) | (refine r_then ?_) | (refine e_then ?_) | (refine n_block ?_) | (refine r_block ?_) | (refine e_block ?_) | (refine o_block rfl ?_)
        | (refine sw_run (by simp []; exact Is.mk _) ?_)
        | (refine sw_true (by simp []; exact Is.mk _) ?_) | (refine sw_false (by simp []; exact Is.mk _) ?_)
        | (refine sw_yes (by simp; exact Is.mk _) (by assumption) ?_)
        | (refine sw_no (by simp; exact Is.mk _) (by assumption) ?_)
        | (refine sw_if (by simp; exact Is.mk _) (fun _ => ?_) (fun _ => ?_)))
      exact end_val (by simp; exact Is.mk _) (by simp [hn0]) ⟨rfl, by simp [cnt]⟩

theorem mulcount_spec (p : Int) (gs : List Gate) (os : List Int) (hl : Small gs.length) : Pure Tryz.prog 41 [circA p gs os] (ai (cnt isMul gs)) := by
  refine pure_of Tryz.func41 rfl Tryz.ntmps41 (by simp) fun F n hF hn hn0 => ?_
  unfold circA
  repeat' (first
    | (refine sw_seq ?_) | (refine sw_block ?_) | (refine sw_skip ?_) | (refine sw_ret ?_) | (refine sw_exit ?_)
    | (refine n_then ?_) | (refine r_then ?_) | (refine e_then ?_) | (refine n_block ?_) | (refine r_block ?_) | (refine e_block ?_) | (refine o_block rfl ?_)
    | (refine sw_run (by simp []; exact Is.mk _) ?_)
    | (refine sw_true (by simp []; exact Is.mk _) ?_) | (refine sw_false (by simp []; exact Is.mk _) ?_)
    | (refine sw_yes (by simp; exact Is.mk _) (by assumption) ?_)
    | (refine sw_no (by simp; exact Is.mk _) (by assumption) ?_)
    | (refine sw_if (by simp; exact Is.mk _) (fun _ => ?_) (fun _ => ?_)))
  refine sw_ss ?_
  repeat (refine ss_op rfl (by simp []; exact Is.mk _) ?_)
  refine ss_pure rfl rfl rfl (by simp; exact Is.mk _) (by kernel_rfl) (count_spec p gs os hl) ?_
  refine ss_all (by simp []; exact Is.mk _) ?_
  repeat' (first
    | (refine sw_seq ?_) | (refine sw_block ?_) | (refine sw_skip ?_) | (refine sw_ret ?_) | (refine sw_exit ?_)
    | (refine n_then ?_) | (refine r_then ?_) | (refine e_then ?_) | (refine n_block ?_) | (refine r_block ?_) | (refine e_block ?_) | (refine o_block rfl ?_)
    | (refine sw_run (by simp []; exact Is.mk _) ?_)
    | (refine sw_true (by simp []; exact Is.mk _) ?_) | (refine sw_false (by simp []; exact Is.mk _) ?_)
    | (refine sw_yes (by simp; exact Is.mk _) (by assumption) ?_)
    | (refine sw_no (by simp; exact Is.mk _) (by assumption) ?_)
    | (refine sw_if (by simp; exact Is.mk _) (fun _ => ?_) (fun _ => ?_)))
  exact end_val (by simp; exact Is.mk _) (by simp [hn0]) ⟨rfl, by simp⟩

/-- Bits and multiplications. -/
def trip (gs : List Gate) : Nat := cnt isBit gs + cnt isMul gs
theorem excl (gs : List Gate) : trip gs ≤ gs.length := by
  unfold trip cnt
  induction gs with
  | nil => simp
  | cons g gs ih =>
    simp only [List.countP_cons, List.length_cons]
    have : ¬ (isBit g = true ∧ isMul g = true) := by
      unfold isBit isMul
      simp only [Bool.and_eq_true, decide_eq_true_eq]
      omega
    split <;> split <;> simp_all <;> omega

theorem triples_spec (p : Int) (gs : List Gate) (os : List Int) (hl : Small gs.length) : Pure Tryz.prog 17 [circA p gs os] (ai (trip gs)) := by
  refine pure_of Tryz.func17 rfl Tryz.ntmps17 (by simp) fun F n hF hn hn0 => ?_
  unfold circA
  repeat' (first
    | (refine sw_seq ?_) | (refine sw_block ?_) | (refine sw_skip ?_) | (refine sw_ret ?_) | (refine sw_exit ?_)
    | (refine n_then ?_) | (refine r_then ?_) | (refine e_then ?_) | (refine n_block ?_) | (refine r_block ?_) | (refine e_block ?_) | (refine o_block rfl ?_)
    | (refine sw_run (by simp []; exact Is.mk _) ?_)
    | (refine sw_true (by simp []; exact Is.mk _) ?_) | (refine sw_false (by simp []; exact Is.mk _) ?_)
    | (refine sw_yes (by simp; exact Is.mk _) (by assumption) ?_)
    | (refine sw_no (by simp; exact Is.mk _) (by assumption) ?_)
    | (refine sw_if (by simp; exact Is.mk _) (fun _ => ?_) (fun _ => ?_)))
  refine sw_draw mixed (by kernel_rfl) rfl ?_
  refine ds_op rfl (by simp; exact Is.mk _) ?_
  refine ds_pure rfl rfl rfl (by simp; exact Is.mk _) (by kernel_rfl) (bits_spec p gs os hl) ?_
  refine ds_op rfl (by simp; exact Is.mk _) ?_
  refine ds_pure rfl rfl rfl (by simp; exact Is.mk _) (by kernel_rfl) (mulcount_spec p gs os hl) ?_
  refine ds_all (by simp; exact Is.mk _) (disAll_quiet (by simp)) ?_
  repeat' (first
    | (refine sw_seq ?_) | (refine sw_block ?_) | (refine sw_skip ?_) | (refine sw_ret ?_) | (refine sw_exit ?_)
    | (refine n_then ?_) | (refine r_then ?_) | (refine e_then ?_) | (refine n_block ?_) | (refine r_block ?_) | (refine e_block ?_) | (refine o_block rfl ?_)
    | (refine sw_run (by simp []; exact Is.mk _) ?_)
    | (refine sw_true (by simp []; exact Is.mk _) ?_) | (refine sw_false (by simp []; exact Is.mk _) ?_)
    | (refine sw_yes (by simp; exact Is.mk _) (by assumption) ?_)
    | (refine sw_no (by simp; exact Is.mk _) (by assumption) ?_)
    | (refine sw_if (by simp; exact Is.mk _) (fun _ => ?_) (fun _ => ?_)))
  have hw : IntKind.i64.wrap ((cnt isBit gs : Int) + (cnt isMul gs : Int)) = ((trip gs : Nat) : Int) := by
    have := hl.lt
    have := excl gs
    unfold trip at *
    rw [i64_in (by omega)]; simp
  exact end_val (by simp; exact Is.mk _) (by simp [hn0]) ⟨rfl, by simp [hw]⟩

end Go.AM
