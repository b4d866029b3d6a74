/- schedule.New. -/
import Derived.Test.YtmljoaiedihoiaaS7
import Derived.Test.YtmljoaiedihoiaaAm25
namespace Go.AM
set_option linter.unusedVariables false
set_option linter.unusedSimpArgs false
open Go Go.RowKit Go.Proofs

def dep (gs : List Gate) : List Int := depFrom (List.replicate gs.length 0) 0 gs
def depsOk (gs : List Gate) : Prop := (dep gs).length = gs.length ∧ ∀ (i : Nat) (g : Gate), gs[i]? = some g → g.kind = 6 → ∃ v : Nat, (dep gs)[i]? = some (v : Int) ∧ 1 ≤ v ∧ v ≤ gs.length
def grow (ls : List (List Int)) (d : Nat) : List (List Int) := ls ++ List.replicate (d - ls.length) []
def bump (ls : List (List Int)) (j : Nat) (i : Int) : List (List Int) := ls.set j (ls.getD j [] ++ [i])
def newFrom (dp : List Int) (ls : List (List Int)) (i : Nat) : List Gate → List (List Int)
  | [] => ls
  | g :: gs => if g.kind = 6 then newFrom dp (bump (grow ls (dp.getD i 0).toNat) ((dp.getD i 0).toNat - 1) i) (i + 1) gs else newFrom dp ls (i + 1) gs
def newS (gs : List Gate) : List (List Int) := newFrom (dep gs) [] 0 gs

abbrev newH (n : Nat) (p : Int) (gs : List Gate) (os : List Int) (ls : List (List Int)) : Locs :=
  [(n + 3, .row ls.length 24 1 (rowE (n + 4) ls)), (n + 2, .row 0 29 1 [[.own (n + 3) ls.length 0 ls.length]]), (n + 1, .row 0 29 1 [[.p (.v (.slice none 0 0))]]), (n, circB p gs os)] ++ nest 3 (n + 4) ls
abbrev newT (n : Nat) (gs : List Gate) (k : Nat) : Slots :=
  [(1, .ptr n 0 0 0), (2, .ptr (n + 1) 0 0 0), (3, .ptr (n + 2) 0 0 0), (4, .p (.sl 1 (ints (dep gs)))), (10, gatesV gs), (11, ai gs.length), (12, ai k)]

theorem cut_newH {N : Nat} {F : AHeap} {n : Nat} {p : Int} {gs : List Gate} {os : List Int} {t t' : Slots} {L : Locs} {ls : List (List Int)}
    (hT : convT (fun id => hp F (newH n p gs os ls) id ≠ none) noA t t') (h3 : hp F L (n + 3) = some (.row ls.length 24 1 (rowE (n + 4) ls)))
    (h2 : hp F L (n + 2) = some (.row 0 29 1 [[.own (n + 3) ls.length 0 ls.length]])) (h1 : hp F L (n + 1) = some (.row 0 29 1 [[.p (.v (.slice none 0 0))]])) (h0 : hp F L n = some (circB p gs os))
    (hN : ∀ j l, ls[j]? = some l → hp F L (n + 4 + j) = some (.row l.length 3 1 (rints l))) (hS : ∀ p ∈ L, F p.1 = none) : Weak N F t (hp F L) t' (hp F (newH n p gs os ls)) := by
  refine weak_cut_hp hT (kept_nest ?_ hN) (shed_of fun p hp => .inl (hS p hp))
  intro q hq
  simp only [List.mem_cons, List.not_mem_nil, or_false] at hq
  rcases hq with rfl | rfl | rfl | rfl
  · refine ⟨h3, rfl, rfl, rfl, convE_rowE ls _ fun j hj => ?_⟩
    obtain ⟨x, hx⟩ := get_lt hj
    simp only [List.cons_append, List.nil_append, hp]
    rw [if_neg (by omega), if_neg (by omega), if_neg (by omega), if_neg (by omega), nest_get hx]
    simp
  · exact ⟨h2, rfl, rfl, rfl, by simp [convE, convL, conv]⟩
  · exact ⟨h1, rfl, rfl, rfl, by simp⟩
  · exact ⟨h0, rfl, rfl, rfl, by simp⟩

theorem fresh_newH {F : AHeap} {n : Nat} (hF : Fresh F [] n) (p : Int) (gs : List Gate) (os : List Int) (ls : List (List Int)) : Fresh F (newH n p gs os ls) (n + 4 + ls.length) := by
  refine fresh_of hF (by omega) ?_
  intro q hq
  simp only [List.mem_append] at hq
  rcases hq with hq | hq
  · simp at hq
    rcases hq with rfl | rfl | rfl | rfl <;> simp <;> omega
  · obtain ⟨j, l, h1, rfl⟩ := nest_mem hq
    have := (List.getElem?_eq_some_iff.1 h1).1
    simp only
    omega

theorem nest_none {F : AHeap} {n : Nat} (hn : ∀ k, F (n + k) = none) {e : TypeId} {ls : List (List Int)} : ∀ p ∈ nest e (n + 4) ls, F p.1 = none := by
  intro q hq
  obtain ⟨j, l, h1, rfl⟩ := nest_mem hq
  simp only
  rw [Nat.add_assoc]
  exact hn _

theorem x3 (n m : Nat) : (n + 3 = n + 4 + m) = False := by simp; omega
theorem x2 (n m : Nat) : (n + 2 = n + 4 + m) = False := by simp; omega
theorem x1 (n m : Nat) : (n + 1 = n + 4 + m) = False := by simp; omega
theorem x0 (n m : Nat) : (n = n + 4 + m) = False := by simp; omega
theorem y3 (n m : Nat) : (n + 4 + m = n + 3) = False := by simp; omega
theorem y2 (n m : Nat) : (n + 4 + m = n + 2) = False := by simp; omega
theorem y1 (n m : Nat) : (n + 4 + m = n + 1) = False := by simp; omega
theorem y0 (n m : Nat) : (n + 4 + m = n) = False := by simp; omega

theorem hp_skip {F : AHeap} {L : Locs} {i : Nat} : ∀ {pre : Locs}, (∀ p ∈ pre, p.1 ≠ i) → hp F (pre ++ L) i = hp F L i
  | [], _ => rfl
  | q :: r, h => by
    simp only [List.cons_append, hp]
    rw [if_neg (fun e => h q (by simp) e.symm)]
    exact hp_skip fun p hp => h p (by simp [hp])

/-- What is new goes. -/
theorem cut_pre {N : Nat} {F : AHeap} {n : Nat} {p : Int} {gs : List Gate} {os : List Int} {t t' : Slots} {pre : Locs} {ls : List (List Int)} (hn : ∀ k, F (n + k) = none)
    (hpre : ∀ p ∈ pre, p.1 = n + 4 + ls.length) (hT : convT (fun id => hp F (newH n p gs os ls) id ≠ none) noA t t') : Weak N F t (hp F (pre ++ newH n p gs os ls)) t' (hp F (newH n p gs os ls)) := by
  have hn0 : F n = none := hn 0
  refine cut_newH hT ?_ ?_ ?_ ?_ ?_ ?_
  · rw [hp_skip fun p hp => by rw [hpre p hp]; omega]; simp
  · rw [hp_skip fun p hp => by rw [hpre p hp]; omega]; simp
  · rw [hp_skip fun p hp => by rw [hpre p hp]; omega]; simp
  · rw [hp_skip fun p hp => by rw [hpre p hp]; omega]; simp
  · intro j l h
    have hj := (List.getElem?_eq_some_iff.1 h).1
    rw [hp_skip fun p hp => by rw [hpre p hp]; omega]
    simp [y3, y2, y1, y0, nest_get h]
  · intro q hq
    simp only [List.mem_append] at hq
    rcases hq with hq | hq | hq
    · rw [hpre q hq, Nat.add_assoc]; exact hn _
    · simp at hq
      rcases hq with rfl | rfl | rfl | rfl <;> simp [hn, hn0]
    · exact nest_none hn q hq

/-- One more layer: nil, made a row. -/
theorem grow_newH {N : Nat} {F : AHeap} {n k : Nat} (hn : ∀ k, F (n + k) = none) {p : Int} {gs : List Gate} {os : List Int} {ls : List (List Int)} :
    Weak N F (newT n gs k ++ [(5, ai k)]) (hp F ([(n + 3, .row (ls.length + 1) 24 1 (rowE (n + 4) ls ++ [[.p (.v (.slice none 0 0))]])), (n + 2, .row 0 29 1 [[.own (n + 3) (ls.length + 1) 0 (ls.length + 1)]]), (n + 1, .row 0 29 1 [[.p (.v (.slice none 0 0))]]), (n, circB p gs os)] ++ nest 3 (n + 4) ls))
      (newT n gs k ++ [(5, ai k)]) (hp F (newH n p gs os (ls ++ [[]]))) := by
  have hout : hp F (nest 3 (n + 4) ls) (n + 4 + ls.length) = none := by rw [nest_out (.inr (Nat.le_refl _)), Nat.add_assoc]; exact hn _
  refine weak_adopt_hp (id := n + 4 + ls.length) (sz := 1) (e := 3) ?_ ?_ (by simp [conv, convT, nilA]) ?_ ?_
  · simp only [List.cons_append, List.nil_append, hp]
    rw [if_neg (by omega), if_neg (by omega), if_neg (by omega), if_neg (by omega)]
    exact hout
  · simp only [newH, List.cons_append, List.nil_append, hp]
    rw [if_neg (by omega), if_neg (by omega), if_neg (by omega), if_neg (by omega), nest_get (j := ls.length) (l := []) (by simp)]
    rfl
  · intro q hq hne
    simp only [List.mem_append, List.mem_cons, List.not_mem_nil, or_false] at hq
    rcases hq with (rfl | rfl | rfl | rfl) | hq
    · refine ⟨_, by simp [hp]; rfl, .inr ⟨by simp, rfl, rfl, ?_⟩⟩
      rw [rowE_app]
      refine convE_app (convE_rowE ls _ fun j hj => ?_) ?_
      · obtain ⟨x, hx⟩ := get_lt hj
        simp only [List.cons_append, List.nil_append, hp]
        rw [if_neg (by omega), if_neg (by omega), if_neg (by omega), if_neg (by omega), nest_get hx]
        simp
      · simp [convE, convL, conv, nilA]
    · exact ⟨_, by simp [hp]; rfl, .inl (by simp)⟩
    · exact ⟨_, by simp [hp], .inl rfl⟩
    · exact ⟨_, by simp [hp], .inl rfl⟩
    · obtain ⟨j, x, hx, rfl⟩ := nest_mem hq
      have hj : j < ls.length := by
        have := (List.getElem?_eq_some_iff.1 hx).1
        simp at this hne
        omega
      rw [List.getElem?_append_left hj] at hx
      refine ⟨_, ?_, .inl rfl⟩
      simp only [List.cons_append, List.nil_append, hp]
      rw [if_neg (by omega), if_neg (by omega), if_neg (by omega), if_neg (by omega)]
      exact nest_get hx
  · intro q hq
    simp only [List.mem_append, List.mem_cons, List.not_mem_nil, or_false] at hq
    rcases hq with (rfl | rfl | rfl | rfl) | hq
    · simp
    · simp
    · simp
    · simp
    · obtain ⟨j, x, hx, rfl⟩ := nest_mem hq
      have hj := (List.getElem?_eq_some_iff.1 hx).1
      have : (ls ++ [[]])[j]? = some x := by rw [List.getElem?_append_left hj]; exact hx
      exact List.mem_map.2 ⟨_, List.mem_append_right _ (nest_key (e := 3) (a := n + 4) this), rfl⟩

set_option maxHeartbeats 4000000 in
theorem new_spec (p : Int) (gs : List Gate) (os : List Int) (hgs : Small gs.length) (hv : opsOk gs) (hdep : depsOk gs) :
    Pure Try.prog 14 [circA p gs os] (schedA (newS gs)) := by
  refine pure_of Try.func14 rfl Try.ntmps14 (by simp) fun F n hF hn hn0 => ?_
  have hn4 : ∀ m, F (n + 4 + m) = none := fun m => by rw [Nat.add_assoc]; exact hn _
  unfold circA
  repeat' (first
    | (refine sw_seq ?_) | (refine sw_block ?_) | (refine sw_skip ?_) | (refine sw_ret ?_) | (refine sw_exit ?_)
    | (refine n_then ?_) | (refine r_then ?_) | (refine e_then ?_) | (refine n_block ?_) | (refine r_block ?_) | (refine e_block ?_) | (refine o_block rfl ?_)
    | (refine sw_run (by simp []; exact Is.mk _) ?_)
    | (refine sw_true (by simp []; exact Is.mk _) ?_) | (refine sw_false (by simp []; exact Is.mk _) ?_)
    | (refine sw_yes (by simp; exact Is.mk _) (by assumption) ?_)
    | (refine sw_no (by simp; exact Is.mk _) (by assumption) ?_)
    | (refine sw_if (by simp; exact Is.mk _) (fun _ => ?_) (fun _ => ?_)))
  refine sw_ss ?_
  repeat (refine ss_op rfl (by simp []; exact Is.mk _) ?_)
  refine ss_pure rfl rfl rfl (by simp; exact Is.mk _) (by kernel_rfl) (depths_spec p gs os hgs hv) ?_
  refine ss_all (by simp []; exact Is.mk _) ?_
  repeat' (first
    | (refine sw_seq ?_) | (refine sw_block ?_) | (refine sw_skip ?_) | (refine sw_ret ?_) | (refine sw_exit ?_)
    | (refine n_then ?_) | (refine r_then ?_) | (refine e_then ?_) | (refine n_block ?_) | (refine r_block ?_) | (refine e_block ?_) | (refine o_block rfl ?_)
    | (refine sw_run (by simp []; exact Is.mk _) ?_)
    | (refine sw_true (by simp []; exact Is.mk _) ?_) | (refine sw_false (by simp []; exact Is.mk _) ?_)
    | (refine sw_yes (by simp; exact Is.mk _) (by assumption) ?_)
    | (refine sw_no (by simp; exact Is.mk _) (by assumption) ?_)
    | (refine sw_if (by simp; exact Is.mk _) (fun _ => ?_) (fun _ => ?_)))
  refine sw_loopI (α := Nat × List (List Int)) (fun x => newT n gs x.1) (fun x => newH n p gs os x.2) (fun x => n + 4 + x.2.length)
    (fun x => x.1 ≤ gs.length ∧ x.2.length ≤ gs.length ∧ (∀ l ∈ x.2, l.length ≤ x.1) ∧ newFrom (dep gs) x.2 x.1 (gs.drop x.1) = newS gs) (fun x => gs.length - x.1) (0, []) (by simp [newS]) ?_ (fun x => fresh_newH hF p gs os x.2) ?_
  · intro _
    refine Weak.trans (weak_cut_hp (t' := newT n gs 0) (L' := [(n + 2, .row 0 29 1 [[.p (.v (.slice none 0 0))]]), (n + 1, .row 0 29 1 [[.p (.v (.slice none 0 0))]]), (n, circB p gs os)]) (by simp [dep]) (by simp) (by simp)) ?_
    refine weak_adopt_hp (id := n + 3) (sz := 1) (e := 24) (by simp [hn]) (by simp [rowE]) (by simp [conv, convT]) ?_ (by simp)
    simp [convE, convL, conv, nilA, nest, rowE]
  · rintro ⟨k, ls⟩ ⟨hk, hlen, hall, hR⟩
    simp only at hk hlen hall hR ⊢
    by_cases hlt : k < gs.length
    · obtain ⟨g, hg⟩ := get_lt hlt
      have hw := wrap_succ hlt hgs
      rw [drop_cons hg] at hR
      simp only [newFrom] at hR
      by_cases h6 : g.kind = 6
      · obtain ⟨v, hv1, hv2, hv3⟩ := hdep.2 k g hg h6
        rw [if_pos h6] at hR
        simp only [List.getD_eq_getElem?_getD, hv1, Option.getD_some, Int.toNat_natCast] at hR
        repeat' (first
          | (refine sw_seq ?_) | (refine sw_block ?_) | (refine sw_skip ?_) | (refine sw_ret ?_) | (refine sw_exit ?_)
          | (refine n_then ?_) | (refine r_then ?_) | (refine e_then ?_) | (refine n_block ?_) | (refine r_block ?_) | (refine e_block ?_) | (refine o_block rfl ?_)
          | (refine sw_run (by simp [hg, gateC, h6]; exact Is.mk _) ?_)
          | (refine sw_true (by simp [hg, gateC, h6]; exact Is.mk _) ?_) | (refine sw_false (by simp [hg, gateC, h6]; exact Is.mk _) ?_)
          | (refine sw_yes (by simp; exact Is.mk _) (by assumption) ?_)
          | (refine sw_no (by simp; exact Is.mk _) (by assumption) ?_)
          | (refine sw_if (by simp; exact Is.mk _) (fun _ => ?_) (fun _ => ?_)))
        refine sw_loopI (α := List (List Int)) (fun _ => newT n gs k ++ [(5, ai k)]) (fun l => newH n p gs os l) (fun l => n + 4 + l.length)
          (fun l => l.length ≤ gs.length ∧ (∀ x ∈ l, x.length ≤ k) ∧ grow l v = grow ls v) (fun l => v - l.length) ls ⟨hlen, hall, rfl⟩ ?_ (fun l => fresh_newH hF p gs os l) ?_
        · intro _
          exact cut_pre (pre := [_, _]) hn (by simp) (by simp)
        · rintro l ⟨q1, q2, q3⟩
          by_cases hc : l.length < v
          · have hsm : Small (l.length + 1) := Small.mk (by have := hgs.lt; omega)
            repeat' (first
              | (refine sw_seq ?_) | (refine sw_block ?_) | (refine sw_skip ?_) | (refine sw_ret ?_) | (refine sw_exit ?_)
              | (refine n_then ?_) | (refine r_then ?_) | (refine e_then ?_) | (refine n_block ?_) | (refine r_block ?_) | (refine e_block ?_) | (refine o_block rfl ?_)
              | (refine sw_run (by simp []; exact Is.mk _) ?_)
              | (refine sw_true (by simp []; exact Is.mk _) ?_) | (refine sw_false (by simp []; exact Is.mk _) ?_)
              | (refine sw_yes (by simp; exact Is.mk _) (by assumption) ?_)
              | (refine sw_no (by simp; exact Is.mk _) (by assumption) ?_)
              | (refine sw_if (by simp; exact Is.mk _) (fun _ => ?_) (fun _ => ?_)))
            refine sw_draw mixed (by kernel_rfl) rfl (ds_all (by simp [hlt, hv1]; exact Is.mk _) (disAll_quiet (by simp)) ?_)
            repeat' (first
              | (refine sw_seq ?_) | (refine sw_block ?_) | (refine sw_skip ?_) | (refine sw_ret ?_) | (refine sw_exit ?_)
              | (refine n_then ?_) | (refine r_then ?_) | (refine e_then ?_) | (refine n_block ?_) | (refine r_block ?_) | (refine e_block ?_) | (refine o_block rfl ?_)
              | (refine sw_run (by simp [hc, hsm, rowE_length, x3, x2, x1, x0]; exact Is.mk _) ?_)
              | (refine sw_true (by simp [hc, hsm, rowE_length, x3, x2, x1, x0]; exact Is.mk _) ?_) | (refine sw_false (by simp [hc, hsm, rowE_length, x3, x2, x1, x0]; exact Is.mk _) ?_)
              | (refine sw_yes (by simp; exact Is.mk _) (by assumption) ?_)
              | (refine sw_no (by simp; exact Is.mk _) (by assumption) ?_)
              | (refine sw_if (by simp; exact Is.mk _) (fun _ => ?_) (fun _ => ?_)))
            refine ⟨l ++ [[]], ⟨by simp; omega, ?_, ?_⟩, by simp; omega, Weak.trans ?_ (grow_newH hn)⟩
            · intro x hx
              simp only [List.mem_append, List.mem_singleton] at hx
              rcases hx with hx | rfl
              · exact q2 x hx
              · simp
            · rw [← q3]
              unfold grow
              rw [show v - l.length = (v - (l ++ [[]]).length) + 1 by simp; omega]
              simp [List.replicate_succ]
            · refine weak_cut_hp (by simp) (kept_nest ?_ ?_) ?_
              · intro q hq
                simp only [List.mem_cons, List.not_mem_nil, or_false] at hq
                rcases hq with rfl | rfl | rfl | rfl
                · refine ⟨by simp, rfl, rfl, rfl, convE_app (convE_rowE l _ fun j hj => ?_) (by simp [convE, convL, conv])⟩
                  obtain ⟨x, hx⟩ := get_lt hj
                  simp [y3, y2, y1, y0, nest_get hx]
                · exact ⟨by simp, rfl, rfl, rfl, by simp [convE, convL, conv]⟩
                · exact ⟨by simp [x1], rfl, rfl, rfl, by simp⟩
                · exact ⟨by simp [x0], rfl, rfl, rfl, by simp⟩
              · intro j x hx
                have hj := (List.getElem?_eq_some_iff.1 hx).1
                have : (j = l.length) = False := by simp; omega
                simp [y3, y2, y1, y0, this, nest_get hx]
              · refine shed_of fun q hq => .inl ?_
                revert q
                simp only [List.forall_mem_cons]
                simp [hn, hn0, hn4]
                exact fun a b h => nest_none hn _ h
          · repeat' (first
              | (refine sw_seq ?_) | (refine sw_block ?_) | (refine sw_skip ?_) | (refine sw_ret ?_) | (refine sw_exit ?_)
              | (refine n_then ?_) | (refine r_then ?_) | (refine e_then ?_) | (refine n_block ?_) | (refine r_block ?_) | (refine e_block ?_) | (refine o_block rfl ?_)
              | (refine sw_run (by simp []; exact Is.mk _) ?_)
              | (refine sw_true (by simp []; exact Is.mk _) ?_) | (refine sw_false (by simp []; exact Is.mk _) ?_)
              | (refine sw_yes (by simp; exact Is.mk _) (by assumption) ?_)
              | (refine sw_no (by simp; exact Is.mk _) (by assumption) ?_)
              | (refine sw_if (by simp; exact Is.mk _) (fun _ => ?_) (fun _ => ?_)))
            refine sw_draw mixed (by kernel_rfl) rfl (ds_all (by simp [hlt, hv1]; exact Is.mk _) (disAll_quiet (by simp)) ?_)
            have e1 : grow ls v = l := by rw [← q3]; unfold grow; rw [show v - l.length = 0 by omega]; simp
            rw [e1] at hR
            have hj : v - 1 < l.length := by have := congrArg List.length e1; unfold grow at this; simp at this; omega
            obtain ⟨x, hx⟩ := get_lt hj
            have hsub : IntKind.i64.wrap ((v : Int) - 1) = ((v - 1 : Nat) : Int) := by have := hgs.lt; rw [i64_in (by omega)]; omega
            have hsm : Small (x.length + 1) := Small.mk (by have := hgs.lt; have := q2 x (List.mem_of_getElem? hx); omega)
            have hN : hp F (nest 3 (n + 4) l) (n + 4 + (v - 1)) = some (.row x.length 3 1 (rints x)) := nest_get hx
            have hrow : ∀ h, (rowE (n + 4) l)[v - 1]'h = [.own (n + 4 + (v - 1)) x.length 0 x.length] := fun h => by have := rowE_get (a := n + 4) (ls := l) (v - 1); rw [List.getElem?_eq_getElem h, hx] at this; exact Option.some.inj this
            have hne : (v - 1 = l.length) = False := by simp; omega
            have hne' : (l.length = v - 1) = False := by simp; omega
            repeat' (first
              | (refine sw_seq ?_) | (refine sw_block ?_) | (refine sw_skip ?_) | (refine sw_ret ?_) | (refine sw_exit ?_)
              | (refine n_then ?_) | (refine r_then ?_) | (refine e_then ?_) | (refine n_block ?_) | (refine r_block ?_) | (refine e_block ?_) | (refine o_block rfl ?_)
              | (refine sw_run (by simp [hc, hw]; exact Is.mk _) ?_)
              | (refine sw_true (by simp [hc, hw]; exact Is.mk _) ?_) | (refine sw_false (by simp [hc, hw]; exact Is.mk _) ?_)
              | (refine sw_yes (by simp; exact Is.mk _) (by assumption) ?_)
              | (refine sw_no (by simp; exact Is.mk _) (by assumption) ?_)
              | (refine sw_if (by simp; exact Is.mk _) (fun _ => ?_) (fun _ => ?_)))
            refine sw_draw (us := [(0,17),(1,17),(2,17),(3,17),(4,17),(5,17),(6,17),(7,17),(8,17),(9,17),(10,17),(11,17),(12,17),(13,17),(14,17),(15,17),(0,18),(1,18),(2,18),(3,18),(4,18),(5,18),(6,18)]) mixed (by kernel_rfl) (by kernel_rfl) (ds_all (by simp [hlt, hv1, hsub, hj, hrow, rowE_get, hx, hN, hne, hne', hsm, rowE_length, x3, x2, x1, x0, y3, y2, y1, y0]; exact Is.mk _) (by simp [disAll, EDisj, wids, rids, hne, hne', x3, x2, x1, x0, y3, y2, y1, y0]) ?_)
            repeat' (first
              | (refine sw_seq ?_) | (refine sw_block ?_) | (refine sw_skip ?_) | (refine sw_ret ?_) | (refine sw_exit ?_)
              | (refine n_then ?_) | (refine r_then ?_) | (refine e_then ?_) | (refine n_block ?_) | (refine r_block ?_) | (refine e_block ?_) | (refine o_block rfl ?_)
              | (refine sw_run (by simp [hw]; exact Is.mk _) ?_)
              | (refine sw_true (by simp [hw]; exact Is.mk _) ?_) | (refine sw_false (by simp [hw]; exact Is.mk _) ?_)
              | (refine sw_yes (by simp; exact Is.mk _) (by assumption) ?_)
              | (refine sw_no (by simp; exact Is.mk _) (by assumption) ?_)
              | (refine sw_if (by simp; exact Is.mk _) (fun _ => ?_) (fun _ => ?_)))
            have hbump : bump l (v - 1) k = l.set (v - 1) (x ++ [(k : Int)]) := by unfold bump; rw [List.getD_eq_getElem?_getD, hx]; rfl
            rw [hbump] at hR
            refine ⟨(k + 1, l.set (v - 1) (x ++ [(k : Int)])), ⟨by simp only; omega, by simpa using q1, ?_, hR⟩, by simp only; omega, ?_⟩
            · intro z hz
              rcases List.mem_or_eq_of_mem_set hz with hz | rfl
              · have := q2 z hz
                simp only
                omega
              · have := q2 x (List.mem_of_getElem? hx)
                simp
                omega
            · refine cut_newH (by simp) ?_ (by simp [x2]) (by simp [x1]) (by simp [x0]) ?_ ?_
              · rw [← rowE_set (a := n + 4) (x := x ++ [(k : Int)]) (ls := l) (v - 1)]
                simp
              · intro j z hz
                by_cases hjv : j = v - 1
                · subst hjv
                  rw [List.getElem?_set_self hj] at hz
                  cases hz
                  simp [y3, rints_app]
                · rw [List.getElem?_set_ne (fun e => hjv e.symm)] at hz
                  have hj2 := (List.getElem?_eq_some_iff.1 hz).1
                  have : (j = l.length) = False := by simp; omega
                  simp [y3, y2, y1, y0, this, hjv, nest_get hz]
              · intro q hq
                revert q
                simp only [List.forall_mem_cons]
                simp [hn, hn0, hn4]
                exact fun a b h => nest_none hn _ h
      · rw [if_neg h6] at hR
        repeat' (first
          | (refine sw_seq ?_) | (refine sw_block ?_) | (refine sw_skip ?_) | (refine sw_ret ?_) | (refine sw_exit ?_)
          | (refine n_then ?_) | (refine r_then ?_) | (refine e_then ?_) | (refine n_block ?_) | (refine r_block ?_) | (refine e_block ?_) | (refine o_block rfl ?_)
          | (refine sw_run (by simp [hg, gateC, h6, hw]; exact Is.mk _) ?_)
          | (refine sw_true (by simp [hg, gateC, h6, hw]; exact Is.mk _) ?_) | (refine sw_false (by simp [hg, gateC, h6, hw]; exact Is.mk _) ?_)
          | (refine sw_yes (by simp; exact Is.mk _) (by assumption) ?_)
          | (refine sw_no (by simp; exact Is.mk _) (by assumption) ?_)
          | (refine sw_if (by simp; exact Is.mk _) (fun _ => ?_) (fun _ => ?_)))
        refine ⟨(k + 1, ls), ⟨by simp only; omega, hlen, fun l hl => Nat.le_trans (hall l hl) (by simp), hR⟩, by simp only; omega, ?_⟩
        exact cut_pre (pre := [_, _]) hn (by simp) (by simp)
    · obtain rfl : k = gs.length := by omega
      simp only [List.drop_length, newFrom] at hR
      repeat' (first
        | (refine sw_seq ?_) | (refine sw_block ?_) | (refine sw_skip ?_) | (refine sw_ret ?_) | (refine sw_exit ?_)
        | (refine n_then ?_) | (refine r_then ?_) | (refine e_then ?_) | (refine n_block ?_) | (refine r_block ?_) | (refine e_block ?_) | (refine o_block rfl ?_)
        | (refine sw_run (by simp []; exact Is.mk _) ?_)
        | (refine sw_true (by simp []; exact Is.mk _) ?_) | (refine sw_false (by simp []; exact Is.mk _) ?_)
        | (refine sw_yes (by simp; exact Is.mk _) (by assumption) ?_)
        | (refine sw_no (by simp; exact Is.mk _) (by assumption) ?_)
        | (refine sw_if (by simp; exact Is.mk _) (fun _ => ?_) (fun _ => ?_)))
      exact end_nest (a := n + 4) (ti := 3) (ls := ls) (by simp; exact Is.mk _) (by simp; rfl) (fun j l h => by simp [y3, y2, y1, y0, nest_get h]) (hn 3) (by omega) (fun j _ => hn4 j) (shed_of fun q hq => .inl (by revert q; simp only [List.forall_mem_cons]; simp [hn, hn0, hn4]; exact fun a b h => nest_none hn _ h)) ⟨rfl, by rw [← hR]; rfl⟩

end Go.AM
