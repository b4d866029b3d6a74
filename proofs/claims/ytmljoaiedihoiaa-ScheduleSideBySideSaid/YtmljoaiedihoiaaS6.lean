/- depths, Valid. -/
import Derived.Test.YtmljoaiedihoiaaS5
namespace Go.AM
set_option linter.unusedVariables false
set_option linter.unusedSimpArgs false
open Go Go.RowKit Go.Proofs

@[simp] theorem up1 (n : Nat) : n + 1 + 1 = n + 2 := rfl
@[simp] theorem up2 (n : Nat) : n + 2 + 1 = n + 3 := rfl
@[simp] theorem up3 (n : Nat) : n + 3 + 1 = n + 4 := rfl
@[simp] theorem up4 (n : Nat) : n + 4 + 1 = n + 5 := rfl
@[simp] theorem up5 (n : Nat) : n + 5 + 1 = n + 6 := rfl
@[simp] theorem up6 (n : Nat) : n + 6 + 1 = n + 7 := rfl
@[simp] theorem up7 (n : Nat) : n + 7 + 1 = n + 8 := rfl
@[simp] theorem up8 (n : Nat) : n + 8 + 1 = n + 9 := rfl
@[simp] theorem up9 (n : Nat) : n + 9 + 1 = n + 10 := rfl

/-- One gate of 'depths': the lists of depths so far. -/
def depIn (out : List Int) (i : Nat) : List Int → List Int
  | [] => out
  | k :: ks => depIn (out.set i (if out.getD k.toNat 0 > out.getD i 0 then out.getD k.toNat 0 else out.getD i 0)) i ks
def depGate (out : List Int) (i : Nat) (g : Gate) : List Int :=
  let o := depIn out i (namedL g)
  if g.kind = 6 then o.set i (IntKind.i64.wrap (o.getD i 0 + 1)) else o
def depFrom (out : List Int) (i : Nat) : List Gate → List Int
  | [] => out
  | g :: gs => depFrom (depGate out i g) (i + 1) gs

theorem depths_spec (p : Int) (gs : List Gate) (os : List Int) (hl : Small gs.length) (hv : ∀ (i : Nat) (g : Gate), gs[i]? = some g → ∀ k ∈ namedL g, 0 ≤ k ∧ k < i) :
    Pure Try.prog 26 [circA p gs os] (.p (.sl 1 (ints (depFrom (List.replicate gs.length 0) 0 gs)))) := by
  refine pure_of Try.func26 rfl Try.ntmps26 (by simp) fun F n hF hn hn0 => ?_
  unfold circA
  repeat' (first
    | (refine sw_seq ?_) | (refine sw_block ?_) | (refine sw_skip ?_) | (refine sw_ret ?_) | (refine sw_exit ?_)
    | (refine n_then ?_) | (refine r_then ?_) | (refine e_then ?_) | (refine n_block ?_) | (refine r_block ?_) | (refine e_block ?_) | (refine o_block rfl ?_)
    | (refine sw_run (by simp [hl]; exact Is.mk _) ?_)
    | (refine sw_true (by simp [hl]; exact Is.mk _) ?_) | (refine sw_false (by simp [hl]; exact Is.mk _) ?_)
    | (refine sw_yes (by simp; exact Is.mk _) (by assumption) ?_)
    | (refine sw_no (by simp; exact Is.mk _) (by assumption) ?_)
    | (refine sw_if (by simp; exact Is.mk _) (fun _ => ?_) (fun _ => ?_)))
  refine sw_loopI (α := Nat × List Int) (fun x => [(1, .ptr n 0 0 0), (3, .own (n + 1) 0 0 gs.length), (13, .p (.sl 5 (gs.map gateC))), (14, ai gs.length), (15, ai x.1)])
    (fun x => [(n + 1, .row 0 3 1 (rints x.2)), (n, circB p gs os)]) (fun _ => n + 2)
    (fun x => x.1 ≤ gs.length ∧ x.2.length = gs.length ∧ depFrom x.2 x.1 (gs.drop x.1) = depFrom (List.replicate gs.length 0) 0 gs) (fun x => gs.length - x.1) (0, List.replicate gs.length 0) (by simp) ?_ ?_ ?_
  · intro _
    refine weak_cut_hp ?_ ?_ ?_
    · simp
    · simp [rints_zero]
    · simp
  · intro x
    exact fresh_of hF (by omega) (by simp)
  · rintro ⟨k, out⟩ ⟨hk, hlen, hdep⟩
    simp only at hk hlen hdep ⊢
    by_cases hlt : k < gs.length
    · obtain ⟨g, hg⟩ : ∃ g, gs[k]? = some g := ⟨gs[k], List.getElem?_eq_getElem hlt⟩
      repeat' (first
        | (refine sw_seq ?_) | (refine sw_block ?_) | (refine sw_skip ?_) | (refine sw_ret ?_) | (refine sw_exit ?_)
        | (refine n_then ?_) | (refine r_then ?_) | (refine e_then ?_) | (refine n_block ?_) | (refine r_block ?_) | (refine e_block ?_) | (refine o_block rfl ?_)
        | (refine sw_run (by simp [hg, gateC]; exact Is.mk _) ?_)
        | (refine sw_true (by simp [hg, gateC]; exact Is.mk _) ?_) | (refine sw_false (by simp [hg, gateC]; exact Is.mk _) ?_)
        | (refine sw_yes (by simp; exact Is.mk _) (by assumption) ?_)
        | (refine sw_no (by simp; exact Is.mk _) (by assumption) ?_)
        | (refine sw_if (by simp; exact Is.mk _) (fun _ => ?_) (fun _ => ?_)))
      refine sw_ss ?_
      refine ss_run (l := [_]) rfl (by simp; exact Is.mk _) ?_
      refine ss_pure rfl rfl rfl (by simp; exact Is.mk _) (by kernel_rfl) (named_spec g) ?_
      refine ss_all (by simp; exact Is.mk _) ?_
      repeat' (first
        | (refine sw_seq ?_) | (refine sw_block ?_) | (refine sw_skip ?_) | (refine sw_ret ?_) | (refine sw_exit ?_)
        | (refine n_then ?_) | (refine r_then ?_) | (refine e_then ?_) | (refine n_block ?_) | (refine r_block ?_) | (refine e_block ?_) | (refine o_block rfl ?_)
        | (refine sw_run (by simp [hg, gateC]; exact Is.mk _) ?_)
        | (refine sw_true (by simp [hg, gateC]; exact Is.mk _) ?_) | (refine sw_false (by simp [hg, gateC]; exact Is.mk _) ?_)
        | (refine sw_yes (by simp; exact Is.mk _) (by assumption) ?_)
        | (refine sw_no (by simp; exact Is.mk _) (by assumption) ?_)
        | (refine sw_if (by simp; exact Is.mk _) (fun _ => ?_) (fun _ => ?_)))
      refine sw_loopI (α := Nat × List Int) (fun y => [(1, .ptr n 0 0 0), (3, .own (n + 1) 0 0 gs.length), (4, ai k), (5, .ptr (n + 2) 0 0 0), (13, .p (.sl 5 (gs.map gateC))), (14, ai gs.length), (15, ai k), (21, .p (.sl 1 (ints (namedL g)))), (22, ai (namedL g).length), (23, ai y.1)])
        (fun y => [(n + 2, gateB g), (n + 1, .row 0 3 1 (rints y.2)), (n, circB p gs os)]) (fun _ => n + 3)
        (fun y => y.1 ≤ (namedL g).length ∧ y.2.length = gs.length ∧ depIn y.2 k ((namedL g).drop y.1) = depIn out k (namedL g)) (fun y => (namedL g).length - y.1) (0, out) (by simp [hlen]) ?_ ?_ ?_
      · intro _
        refine weak_cut_hp ?_ ?_ ?_
        · simp
        · simp
        · simp
      · intro x
        exact fresh_of hF (by omega) (by simp)
      · rintro ⟨j, o2⟩ ⟨hj, hlen2, hdep2⟩
        simp only at hj hlen2 hdep2 ⊢
        by_cases hjl : j < (namedL g).length
        · obtain ⟨q, hq⟩ : ∃ q, (namedL g)[j]? = some q := ⟨(namedL g)[j], List.getElem?_eq_getElem hjl⟩
          obtain ⟨hq0, hq1⟩ := hv k g hg q (List.mem_of_getElem? hq)
          obtain ⟨q, rfl⟩ : ∃ m : Nat, q = m := ⟨q.toNat, by omega⟩
          obtain ⟨v1, hv1⟩ : ∃ v, o2[k]? = some v := ⟨o2[k], List.getElem?_eq_getElem (by omega)⟩
          obtain ⟨v2, hv2⟩ : ∃ v, o2[q]? = some v := ⟨o2[q], List.getElem?_eq_getElem (by omega)⟩
          have hqk : q < gs.length := by omega
          have hw : IntKind.i64.wrap ((j : Int) + 1) = ((j + 1 : Nat) : Int) := by rw [i64_in (by have := hl.lt; unfold namedL at hjl; split at hjl <;> (try split at hjl) <;> simp at hjl <;> omega)]; simp
          repeat' (first
            | (refine sw_seq ?_) | (refine sw_block ?_) | (refine sw_skip ?_) | (refine sw_ret ?_) | (refine sw_exit ?_)
            | (refine n_then ?_) | (refine r_then ?_) | (refine e_then ?_) | (refine n_block ?_) | (refine r_block ?_) | (refine e_block ?_) | (refine o_block rfl ?_)
            | (refine sw_run (by simp [hq]; exact Is.mk _) ?_)
            | (refine sw_true (by simp [hq]; exact Is.mk _) ?_) | (refine sw_false (by simp [hq]; exact Is.mk _) ?_)
            | (refine sw_yes (by simp; exact Is.mk _) (by assumption) ?_)
            | (refine sw_no (by simp; exact Is.mk _) (by assumption) ?_)
            | (refine sw_if (by simp; exact Is.mk _) (fun _ => ?_) (fun _ => ?_)))
          refine sw_draw (us := []) mixed (by kernel_rfl) (by kernel_rfl) (ds_all (by simp [hlt, hqk, hv1, hv2]; exact Is.mk _) (by simp) ?_)
          repeat' (first
            | (refine sw_seq ?_) | (refine sw_block ?_) | (refine sw_skip ?_) | (refine sw_ret ?_) | (refine sw_exit ?_)
            | (refine n_then ?_) | (refine r_then ?_) | (refine e_then ?_) | (refine n_block ?_) | (refine r_block ?_) | (refine e_block ?_) | (refine o_block rfl ?_)
            | (refine sw_run (by simp [hw]; exact Is.mk _) ?_)
            | (refine sw_true (by simp [hw]; exact Is.mk _) ?_) | (refine sw_false (by simp [hw]; exact Is.mk _) ?_)
            | (refine sw_yes (by simp; exact Is.mk _) (by assumption) ?_)
            | (refine sw_no (by simp; exact Is.mk _) (by assumption) ?_)
            | (refine sw_if (by simp; exact Is.mk _) (fun _ => ?_) (fun _ => ?_)))
          refine ⟨(j + 1, o2.set k (if v1 < v2 then v2 else v1)), ⟨by simp only; omega, by simp [hlen2], ?_⟩, by simp only; omega, weak_cut_hp (by simp) (by simp [rints_set]) (by simp)⟩
          rw [← hdep2]
          have hd : (namedL g).drop j = (q : Int) :: (namedL g).drop (j + 1) := by
            obtain ⟨h1, h2⟩ := List.getElem?_eq_some_iff.1 hq
            rw [← h2]; exact List.drop_eq_getElem_cons h1
          rw [hd]
          simp [depIn, List.getD_eq_getElem?_getD, hv1, hv2]
        · have hje : j = (namedL g).length := by omega
          subst hje
          simp only [List.drop_length, depIn] at hdep2
          obtain ⟨v1, hv1⟩ : ∃ v, o2[k]? = some v := ⟨o2[k], List.getElem?_eq_getElem (by omega)⟩
          have hw : IntKind.i64.wrap ((k : Int) + 1) = ((k + 1 : Nat) : Int) := by rw [i64_in (by have := hl.lt; omega)]; simp
          have hd : gs.drop k = g :: gs.drop (k + 1) := by
            obtain ⟨h1, h2⟩ := List.getElem?_eq_some_iff.1 hg
            rw [← h2]; exact List.drop_eq_getElem_cons h1
          rw [hd] at hdep
          simp only [depFrom, depGate, ← hdep2] at hdep
          repeat' (first
            | (refine sw_seq ?_) | (refine sw_block ?_) | (refine sw_skip ?_) | (refine sw_ret ?_) | (refine sw_exit ?_)
            | (refine n_then ?_) | (refine r_then ?_) | (refine e_then ?_) | (refine n_block ?_) | (refine r_block ?_) | (refine e_block ?_) | (refine o_block rfl ?_)
            | (refine sw_run (by simp [hw, hlt, hv1, gateC]; exact Is.mk _) ?_)
            | (refine sw_true (by simp [hw, hlt, hv1, gateC]; exact Is.mk _) ?_) | (refine sw_false (by simp [hw, hlt, hv1, gateC]; exact Is.mk _) ?_)
            | (refine sw_yes (by simp; exact Is.mk _) (by assumption) ?_)
            | (refine sw_no (by simp; exact Is.mk _) (by assumption) ?_)
            | (refine sw_if (by simp; exact Is.mk _) (fun _ => ?_) (fun _ => ?_)))
          · refine ⟨(k + 1, o2.set k (IntKind.i64.wrap (v1 + 1))), ⟨by simp only; omega, by simp [hlen2], ?_⟩, by simp only; omega, weak_cut_hp (by simp) (by simp [rints_set]) (by simp [hn])⟩
            simp only [if_pos ‹g.kind = 6›, List.getD_eq_getElem?_getD, hv1, Option.getD_some] at hdep
            exact hdep
          · refine ⟨(k + 1, o2), ⟨by simp only; omega, by simp [hlen2], ?_⟩, by simp only; omega, weak_cut_hp (by simp) (by simp) (by simp [hn])⟩
            simpa [*] using hdep
    · have hke : k = gs.length := by omega
      subst hke
      simp only [List.drop_length, depFrom] at hdep
      repeat' (first
        | (refine sw_seq ?_) | (refine sw_block ?_) | (refine sw_skip ?_) | (refine sw_ret ?_) | (refine sw_exit ?_)
        | (refine n_then ?_) | (refine r_then ?_) | (refine e_then ?_) | (refine n_block ?_) | (refine r_block ?_) | (refine e_block ?_) | (refine o_block rfl ?_)
        | (refine sw_run (by simp []; exact Is.mk _) ?_)
        | (refine sw_true (by simp []; exact Is.mk _) ?_) | (refine sw_false (by simp []; exact Is.mk _) ?_)
        | (refine sw_yes (by simp; exact Is.mk _) (by assumption) ?_)
        | (refine sw_no (by simp; exact Is.mk _) (by assumption) ?_)
        | (refine sw_if (by simp; exact Is.mk _) (fun _ => ?_) (fun _ => ?_)))
      exact end_own (es := ints out) (by simp; exact Is.mk _) (by simp; exact Is.mk _) rfl (by simp [hlen]) (hn 1) (by simp [hn0, hn]) ⟨rfl, by rw [hdep]⟩


/-! ### Valid -/

def opsOk (gs : List Gate) : Prop := ∀ (i : Nat) (g : Gate), gs[i]? = some g → ∀ k ∈ namedL g, 0 ≤ k ∧ k < i
def validFrom (at_ last : List Int) (i : Nat) : List Gate → Bool
  | [] => true
  | g :: gs => if g.kind = 6 then (if at_.getD i 0 = 0 ∨ at_.getD i 0 ≤ (depIn last i (namedL g)).getD i 0 then false else validFrom at_ ((depIn last i (namedL g)).set i (at_.getD i 0)) (i + 1) gs)
    else validFrom at_ (depIn last i (namedL g)) (i + 1) gs
def validS (gs : List Gate) (l : List (List Int)) : Bool :=
  match placeAll gs (List.replicate gs.length 0) 0 l with
  | none => false
  | some at_ => validFrom at_ (List.replicate gs.length 0) 0 gs

theorem placeOne_len {gs : List Gate} {out o : List Int} {n i : Int} (h : placeOne gs out n i = some o) : o.length = out.length := by
  unfold placeOne at h; split at h <;> cases h; simp
theorem placeLayer_len {gs : List Gate} {n : Int} : ∀ {l : List Int} {out o : List Int}, placeLayer gs out n l = some o → o.length = out.length
  | [], _, _, h => by simp only [placeLayer] at h; cases h; rfl
  | i :: l, out, o, h => by
    simp only [placeLayer, Option.bind_eq_some_iff] at h
    obtain ⟨o1, h1, h2⟩ := h
    rw [placeLayer_len h2, placeOne_len h1]
theorem placeAll_len {gs : List Gate} : ∀ {l : List (List Int)} {n : Int} {out o : List Int}, placeAll gs out n l = some o → o.length = out.length
  | [], _, _, _, h => by simp only [placeAll] at h; cases h; rfl
  | i :: l, n, out, o, h => by
    simp only [placeAll, Option.bind_eq_some_iff] at h
    obtain ⟨o1, h1, h2⟩ := h
    rw [placeAll_len h2, placeLayer_len h1]

set_option maxHeartbeats 2000000 in
theorem valid_spec (p : Int) (gs : List Gate) (os : List Int) (l : List (List Int)) (hgs : Small gs.length) (hv : opsOk gs) (hl : Small l.length) (hll : ∀ x ∈ l, Small x.length) :
    Pure Try.prog 12 [circA p gs os, schedA l] (ab (validS gs l)) := by
  refine pure_of Try.func12 rfl Try.ntmps12 (by simp) fun F n hF hn hn0 => ?_
  unfold circA schedA
  repeat' (first
    | (refine sw_seq ?_) | (refine sw_block ?_) | (refine sw_skip ?_) | (refine sw_ret ?_) | (refine sw_exit ?_)
    | (refine n_then ?_) | (refine r_then ?_) | (refine e_then ?_) | (refine n_block ?_) | (refine r_block ?_) | (refine e_block ?_) | (refine o_block rfl ?_)
    | (refine sw_run (by simp []; exact Is.mk _) ?_)
    | (refine sw_true (by simp []; exact Is.mk _) ?_) | (refine sw_false (by simp []; exact Is.mk _) ?_)
    | (refine sw_yes (by simp; exact Is.mk _) (by assumption) ?_)
    | (refine sw_no (by simp; exact Is.mk _) (by assumption) ?_)
    | (refine sw_if (by simp; exact Is.mk _) (fun _ => ?_) (fun _ => ?_)))
  refine sw_ss ?_
  repeat (refine ss_op rfl (by simp []; exact Is.mk _) ?_)
  refine ss_pure rfl rfl rfl (by simp; exact Is.mk _) (by kernel_rfl) (placed_spec p gs os l hgs hl hll) ?_
  cases hpl : placeAll gs (List.replicate gs.length 0) 0 l with
  | none =>
    simp only [placedV]
    refine ss_all (by simp []; exact Is.mk _) ?_
    repeat' (first
      | (refine sw_seq ?_) | (refine sw_block ?_) | (refine sw_skip ?_) | (refine sw_ret ?_) | (refine sw_exit ?_)
      | (refine n_then ?_) | (refine r_then ?_) | (refine e_then ?_) | (refine n_block ?_) | (refine r_block ?_) | (refine e_block ?_) | (refine o_block rfl ?_)
      | (refine sw_run (by simp []; exact Is.mk _) ?_)
      | (refine sw_true (by simp []; exact Is.mk _) ?_) | (refine sw_false (by simp []; exact Is.mk _) ?_)
      | (refine sw_yes (by simp; exact Is.mk _) (by assumption) ?_)
      | (refine sw_no (by simp; exact Is.mk _) (by assumption) ?_)
      | (refine sw_if (by simp; exact Is.mk _) (fun _ => ?_) (fun _ => ?_)))
    exact end_val (by simp; exact Is.mk _) (by simp [hn0, hn]) ⟨rfl, by simp [validS, hpl]⟩
  | some at_ =>
    have hal : at_.length = gs.length := by have := placeAll_len hpl; simpa using this
    simp only [placedV]
    refine ss_all (by simp []; exact Is.mk _) ?_
    repeat' (first
      | (refine sw_seq ?_) | (refine sw_block ?_) | (refine sw_skip ?_) | (refine sw_ret ?_) | (refine sw_exit ?_)
      | (refine n_then ?_) | (refine r_then ?_) | (refine e_then ?_) | (refine n_block ?_) | (refine r_block ?_) | (refine e_block ?_) | (refine o_block rfl ?_)
      | (refine sw_run (by simp [hgs]; exact Is.mk _) ?_)
      | (refine sw_true (by simp [hgs]; exact Is.mk _) ?_) | (refine sw_false (by simp [hgs]; exact Is.mk _) ?_)
      | (refine sw_yes (by simp; exact Is.mk _) (by assumption) ?_)
      | (refine sw_no (by simp; exact Is.mk _) (by assumption) ?_)
      | (refine sw_if (by simp; exact Is.mk _) (fun _ => ?_) (fun _ => ?_)))
    refine sw_loopI (α := Nat × List Int) (fun x => [(2, .ptr n 0 0 0), (3, .ptr (n + 1) 0 0 0), (5, .p (.sl 1 (ints at_))), (7, .own (n + 2) 0 0 gs.length), (25, .p (.sl 5 (gs.map gateC))), (26, ai gs.length), (27, ai x.1)])
      (fun x => [(n + 2, .row 0 3 1 (rints x.2)), (n + 1, schedB l), (n, circB p gs os)]) (fun _ => n + 3)
      (fun x => x.1 ≤ gs.length ∧ x.2.length = gs.length ∧ validFrom at_ x.2 x.1 (gs.drop x.1) = validFrom at_ (List.replicate gs.length 0) 0 gs) (fun x => gs.length - x.1) (0, List.replicate gs.length 0) (by simp) ?_ ?_ ?_
    · intro _
      exact weak_cut_hp (by simp) (by simp [rints_zero]) (by simp)
    · intro x
      exact fresh_of hF (by omega) (by simp)
    · rintro ⟨k, out⟩ ⟨hk, hlen, hR⟩
      simp only at hk hlen hR ⊢
      by_cases hlt : k < gs.length
      · obtain ⟨g, hg⟩ := get_lt hlt
        have hgg : gs[k] = g := by rw [List.getElem?_eq_getElem hlt] at hg; exact Option.some.inj hg
        rw [drop_cons hg] at hR
        simp only [validFrom] at hR
        repeat' (first
          | (refine sw_seq ?_) | (refine sw_block ?_) | (refine sw_skip ?_) | (refine sw_ret ?_) | (refine sw_exit ?_)
          | (refine n_then ?_) | (refine r_then ?_) | (refine e_then ?_) | (refine n_block ?_) | (refine r_block ?_) | (refine e_block ?_) | (refine o_block rfl ?_)
          | (refine sw_run (by simp [hg, gateC]; exact Is.mk _) ?_)
          | (refine sw_true (by simp [hg, gateC]; exact Is.mk _) ?_) | (refine sw_false (by simp [hg, gateC]; exact Is.mk _) ?_)
          | (refine sw_yes (by simp; exact Is.mk _) (by assumption) ?_)
          | (refine sw_no (by simp; exact Is.mk _) (by assumption) ?_)
          | (refine sw_if (by simp; exact Is.mk _) (fun _ => ?_) (fun _ => ?_)))
        refine sw_ss ?_
        repeat (refine ss_op rfl (by simp []; exact Is.mk _) ?_)
        refine ss_pure rfl rfl rfl (by simp; exact Is.mk _) (by kernel_rfl) (named_spec g) ?_
        refine ss_all (by simp []; exact Is.mk _) ?_
        repeat' (first
          | (refine sw_seq ?_) | (refine sw_block ?_) | (refine sw_skip ?_) | (refine sw_ret ?_) | (refine sw_exit ?_)
          | (refine n_then ?_) | (refine r_then ?_) | (refine e_then ?_) | (refine n_block ?_) | (refine r_block ?_) | (refine e_block ?_) | (refine o_block rfl ?_)
          | (refine sw_run (by simp []; exact Is.mk _) ?_)
          | (refine sw_true (by simp []; exact Is.mk _) ?_) | (refine sw_false (by simp []; exact Is.mk _) ?_)
          | (refine sw_yes (by simp; exact Is.mk _) (by assumption) ?_)
          | (refine sw_no (by simp; exact Is.mk _) (by assumption) ?_)
          | (refine sw_if (by simp; exact Is.mk _) (fun _ => ?_) (fun _ => ?_)))
        refine sw_loopI (α := Nat × List Int) (fun y => [(2, .ptr n 0 0 0), (3, .ptr (n + 1) 0 0 0), (5, .p (.sl 1 (ints at_))), (7, .own (n + 2) 0 0 gs.length), (8, ai k), (9, .ptr (n + 3) 0 0 0), (25, .p (.sl 5 (gs.map gateC))), (26, ai gs.length), (27, ai k), (33, .p (.sl 1 (ints (namedL g)))), (34, ai (namedL g).length), (35, ai y.1)])
          (fun y => [(n + 3, gateB g), (n + 2, .row 0 3 1 (rints y.2)), (n + 1, schedB l), (n, circB p gs os)]) (fun _ => n + 4)
          (fun y => y.1 ≤ (namedL g).length ∧ y.2.length = gs.length ∧ depIn y.2 k ((namedL g).drop y.1) = depIn out k (namedL g)) (fun y => (namedL g).length - y.1) (0, out) (by simp [hlen]) ?_ ?_ ?_
        · intro _
          exact weak_cut_hp (by simp) (by simp) (by simp)
        · intro x
          exact fresh_of hF (by omega) (by simp)
        · rintro ⟨j, o2⟩ ⟨hj, hlen2, hdep2⟩
          simp only at hj hlen2 hdep2 ⊢
          by_cases hjl : j < (namedL g).length
          · obtain ⟨q, hq⟩ : ∃ q, (namedL g)[j]? = some q := ⟨(namedL g)[j], List.getElem?_eq_getElem hjl⟩
            obtain ⟨hq0, hq1⟩ := hv k g hg q (List.mem_of_getElem? hq)
            obtain ⟨q, rfl⟩ : ∃ m : Nat, q = m := ⟨q.toNat, by omega⟩
            obtain ⟨v1, hv1⟩ : ∃ v, o2[k]? = some v := ⟨o2[k], List.getElem?_eq_getElem (by omega)⟩
            obtain ⟨v2, hv2⟩ : ∃ v, o2[q]? = some v := ⟨o2[q], List.getElem?_eq_getElem (by omega)⟩
            have hqk : q < gs.length := by omega
            have hw : IntKind.i64.wrap ((j : Int) + 1) = ((j + 1 : Nat) : Int) := by rw [i64_in (by have := hgs.lt; unfold namedL at hjl; split at hjl <;> (try split at hjl) <;> simp at hjl <;> omega)]; simp
            repeat' (first
              | (refine sw_seq ?_) | (refine sw_block ?_) | (refine sw_skip ?_) | (refine sw_ret ?_) | (refine sw_exit ?_)
              | (refine n_then ?_) | (refine r_then ?_) | (refine e_then ?_) | (refine n_block ?_) | (refine r_block ?_) | (refine e_block ?_) | (refine o_block rfl ?_)
              | (refine sw_run (by simp [hq]; exact Is.mk _) ?_)
              | (refine sw_true (by simp [hq]; exact Is.mk _) ?_) | (refine sw_false (by simp [hq]; exact Is.mk _) ?_)
              | (refine sw_yes (by simp; exact Is.mk _) (by assumption) ?_)
              | (refine sw_no (by simp; exact Is.mk _) (by assumption) ?_)
              | (refine sw_if (by simp; exact Is.mk _) (fun _ => ?_) (fun _ => ?_)))
            refine sw_draw (us := []) mixed (by kernel_rfl) (by kernel_rfl) (ds_all (by simp [hlt, hqk, hv1, hv2]; exact Is.mk _) (by simp [disAll, EDisj, wids, rids]) ?_)
            repeat' (first
              | (refine sw_seq ?_) | (refine sw_block ?_) | (refine sw_skip ?_) | (refine sw_ret ?_) | (refine sw_exit ?_)
              | (refine n_then ?_) | (refine r_then ?_) | (refine e_then ?_) | (refine n_block ?_) | (refine r_block ?_) | (refine e_block ?_) | (refine o_block rfl ?_)
              | (refine sw_run (by simp [hw]; exact Is.mk _) ?_)
              | (refine sw_true (by simp [hw]; exact Is.mk _) ?_) | (refine sw_false (by simp [hw]; exact Is.mk _) ?_)
              | (refine sw_yes (by simp; exact Is.mk _) (by assumption) ?_)
              | (refine sw_no (by simp; exact Is.mk _) (by assumption) ?_)
              | (refine sw_if (by simp; exact Is.mk _) (fun _ => ?_) (fun _ => ?_)))
            refine ⟨(j + 1, o2.set k (if v1 < v2 then v2 else v1)), ⟨by simp only; omega, by simp [hlen2], ?_⟩, by simp only; omega, weak_cut_hp (by simp) (by simp [rints_set]) (by simp)⟩
            rw [← hdep2, drop_cons hq]
            simp [depIn, List.getD_eq_getElem?_getD, hv1, hv2]
          · have hje : j = (namedL g).length := by omega
            subst hje
            simp only [List.drop_length, depIn] at hdep2
            rw [← hdep2] at hR
            obtain ⟨v1, hv1⟩ : ∃ v, o2[k]? = some v := ⟨o2[k], List.getElem?_eq_getElem (by omega)⟩
            obtain ⟨a1, ha1⟩ : ∃ v, at_[k]? = some v := ⟨at_[k], List.getElem?_eq_getElem (by omega)⟩
            have hw := wrap_succ hlt hgs
            simp only [List.getD_eq_getElem?_getD, hv1, ha1, Option.getD_some] at hR
            by_cases h6 : g.kind = 6
            · rw [if_pos h6] at hR
              by_cases c1 : a1 = 0
              · rw [if_pos (.inl c1)] at hR
                repeat' (first
                  | (refine sw_seq ?_) | (refine sw_block ?_) | (refine sw_skip ?_) | (refine sw_ret ?_) | (refine sw_exit ?_)
                  | (refine n_then ?_) | (refine r_then ?_) | (refine e_then ?_) | (refine n_block ?_) | (refine r_block ?_) | (refine e_block ?_) | (refine o_block rfl ?_)
                  | (refine sw_run (by simp [h6]; exact Is.mk _) ?_)
                  | (refine sw_true (by simp [h6]; exact Is.mk _) ?_) | (refine sw_false (by simp [h6]; exact Is.mk _) ?_)
                  | (refine sw_yes (by simp; exact Is.mk _) (by assumption) ?_)
                  | (refine sw_no (by simp; exact Is.mk _) (by assumption) ?_)
                  | (refine sw_if (by simp; exact Is.mk _) (fun _ => ?_) (fun _ => ?_)))
                refine sw_draw mixed (by kernel_rfl) rfl (ds_all (by simp [hlt, ha1, hv1, c1]; exact Is.mk _) (disAll_quiet (by simp)) ?_)
                repeat' (first
                  | (refine sw_seq ?_) | (refine sw_block ?_) | (refine sw_skip ?_) | (refine sw_ret ?_) | (refine sw_exit ?_)
                  | (refine n_then ?_) | (refine r_then ?_) | (refine e_then ?_) | (refine n_block ?_) | (refine r_block ?_) | (refine e_block ?_) | (refine o_block rfl ?_)
                  | (refine sw_run (by simp []; exact Is.mk _) ?_)
                  | (refine sw_true (by simp []; exact Is.mk _) ?_) | (refine sw_false (by simp []; exact Is.mk _) ?_)
                  | (refine sw_yes (by simp; exact Is.mk _) (by assumption) ?_)
                  | (refine sw_no (by simp; exact Is.mk _) (by assumption) ?_)
                  | (refine sw_if (by simp; exact Is.mk _) (fun _ => ?_) (fun _ => ?_)))
                exact end_val (by simp; exact Is.mk _) (by simp [hn0, hn]) ⟨rfl, by simp [validS, hpl, ← hR]⟩
              · by_cases c2 : a1 ≤ v1
                · rw [if_pos (.inr c2)] at hR
                  repeat' (first
                    | (refine sw_seq ?_) | (refine sw_block ?_) | (refine sw_skip ?_) | (refine sw_ret ?_) | (refine sw_exit ?_)
                    | (refine n_then ?_) | (refine r_then ?_) | (refine e_then ?_) | (refine n_block ?_) | (refine r_block ?_) | (refine e_block ?_) | (refine o_block rfl ?_)
                    | (refine sw_run (by simp [h6]; exact Is.mk _) ?_)
                    | (refine sw_true (by simp [h6]; exact Is.mk _) ?_) | (refine sw_false (by simp [h6]; exact Is.mk _) ?_)
                    | (refine sw_yes (by simp; exact Is.mk _) (by assumption) ?_)
                    | (refine sw_no (by simp; exact Is.mk _) (by assumption) ?_)
                    | (refine sw_if (by simp; exact Is.mk _) (fun _ => ?_) (fun _ => ?_)))
                  refine sw_draw mixed (by kernel_rfl) rfl (ds_all (by simp [hlt, ha1, hv1, c1, c2]; exact Is.mk _) (disAll_quiet (by simp)) ?_)
                  repeat' (first
                    | (refine sw_seq ?_) | (refine sw_block ?_) | (refine sw_skip ?_) | (refine sw_ret ?_) | (refine sw_exit ?_)
                    | (refine n_then ?_) | (refine r_then ?_) | (refine e_then ?_) | (refine n_block ?_) | (refine r_block ?_) | (refine e_block ?_) | (refine o_block rfl ?_)
                    | (refine sw_run (by simp []; exact Is.mk _) ?_)
                    | (refine sw_true (by simp []; exact Is.mk _) ?_) | (refine sw_false (by simp []; exact Is.mk _) ?_)
                    | (refine sw_yes (by simp; exact Is.mk _) (by assumption) ?_)
                    | (refine sw_no (by simp; exact Is.mk _) (by assumption) ?_)
                    | (refine sw_if (by simp; exact Is.mk _) (fun _ => ?_) (fun _ => ?_)))
                  exact end_val (by simp; exact Is.mk _) (by simp [hn0, hn]) ⟨rfl, by simp [validS, hpl, ← hR]⟩
                · rw [if_neg (by rintro (h | h) <;> contradiction)] at hR
                  repeat' (first
                    | (refine sw_seq ?_) | (refine sw_block ?_) | (refine sw_skip ?_) | (refine sw_ret ?_) | (refine sw_exit ?_)
                    | (refine n_then ?_) | (refine r_then ?_) | (refine e_then ?_) | (refine n_block ?_) | (refine r_block ?_) | (refine e_block ?_) | (refine o_block rfl ?_)
                    | (refine sw_run (by simp [h6]; exact Is.mk _) ?_)
                    | (refine sw_true (by simp [h6]; exact Is.mk _) ?_) | (refine sw_false (by simp [h6]; exact Is.mk _) ?_)
                    | (refine sw_yes (by simp; exact Is.mk _) (by assumption) ?_)
                    | (refine sw_no (by simp; exact Is.mk _) (by assumption) ?_)
                    | (refine sw_if (by simp; exact Is.mk _) (fun _ => ?_) (fun _ => ?_)))
                  refine sw_draw mixed (by kernel_rfl) rfl (ds_all (by simp [hlt, ha1, hv1, c1, c2]; exact Is.mk _) (disAll_quiet (by simp)) ?_)
                  repeat' (first
                    | (refine sw_seq ?_) | (refine sw_block ?_) | (refine sw_skip ?_) | (refine sw_ret ?_) | (refine sw_exit ?_)
                    | (refine n_then ?_) | (refine r_then ?_) | (refine e_then ?_) | (refine n_block ?_) | (refine r_block ?_) | (refine e_block ?_) | (refine o_block rfl ?_)
                    | (refine sw_run (by simp [hlt, ha1, hv1, hw]; exact Is.mk _) ?_)
                    | (refine sw_true (by simp [hlt, ha1, hv1, hw]; exact Is.mk _) ?_) | (refine sw_false (by simp [hlt, ha1, hv1, hw]; exact Is.mk _) ?_)
                    | (refine sw_yes (by simp; exact Is.mk _) (by assumption) ?_)
                    | (refine sw_no (by simp; exact Is.mk _) (by assumption) ?_)
                    | (refine sw_if (by simp; exact Is.mk _) (fun _ => ?_) (fun _ => ?_)))
                  exact ⟨(k + 1, o2.set k a1), ⟨by simp only; omega, by simp [hlen2], hR⟩, by simp only; omega, weak_cut_hp (by simp) (by simp [rints_set]) (by simp [hn])⟩
            · rw [if_neg h6] at hR
              repeat' (first
                | (refine sw_seq ?_) | (refine sw_block ?_) | (refine sw_skip ?_) | (refine sw_ret ?_) | (refine sw_exit ?_)
                | (refine n_then ?_) | (refine r_then ?_) | (refine e_then ?_) | (refine n_block ?_) | (refine r_block ?_) | (refine e_block ?_) | (refine o_block rfl ?_)
                | (refine sw_run (by simp [h6, hw]; exact Is.mk _) ?_)
                | (refine sw_true (by simp [h6, hw]; exact Is.mk _) ?_) | (refine sw_false (by simp [h6, hw]; exact Is.mk _) ?_)
                | (refine sw_yes (by simp; exact Is.mk _) (by assumption) ?_)
                | (refine sw_no (by simp; exact Is.mk _) (by assumption) ?_)
                | (refine sw_if (by simp; exact Is.mk _) (fun _ => ?_) (fun _ => ?_)))
              exact ⟨(k + 1, o2), ⟨by simp only; omega, hlen2, hR⟩, by simp only; omega, weak_cut_hp (by simp) (by simp) (by simp [hn])⟩
      · have hke : k = gs.length := by omega
        subst hke
        simp only [List.drop_length, validFrom] at hR
        repeat' (first
          | (refine sw_seq ?_) | (refine sw_block ?_) | (refine sw_skip ?_) | (refine sw_ret ?_) | (refine sw_exit ?_)
          | (refine n_then ?_) | (refine r_then ?_) | (refine e_then ?_) | (refine n_block ?_) | (refine r_block ?_) | (refine e_block ?_) | (refine o_block rfl ?_)
          | (refine sw_run (by simp []; exact Is.mk _) ?_)
          | (refine sw_true (by simp []; exact Is.mk _) ?_) | (refine sw_false (by simp []; exact Is.mk _) ?_)
          | (refine sw_yes (by simp; exact Is.mk _) (by assumption) ?_)
          | (refine sw_no (by simp; exact Is.mk _) (by assumption) ?_)
          | (refine sw_if (by simp; exact Is.mk _) (fun _ => ?_) (fun _ => ?_)))
        exact end_val (by simp; exact Is.mk _) (by simp [hn0, hn]) ⟨rfl, by simp [validS, hpl, ← hR]⟩

end Go.AM
