/- Few; placed. -/
import Derived.Test.YtmljoaiedihoiaaS4
namespace Go.AM
set_option linter.unusedVariables false
set_option linter.unusedSimpArgs false
open Go Go.RowKit Go.Proofs

def fewL (q : Int) : List (List Int) → Bool
  | [] => true
  | x :: l => decide ((x.length : Int) ≤ q) && fewL q l
def fewC (l : List (List Int)) (m q : Int) : Bool := decide ((l.length : Int) ≤ m) && fewL q l

theorem few_spec (l : List (List Int)) (m q : Int) (hm : m < 1000000) : Pure Try.prog 11 [schedA l, ai m, ai q] (ab (fewC l m q)) := by
  refine pure_of Try.func11 rfl Try.ntmps11 (by simp) fun F n hF hn hn0 => ?_
  unfold schedA
  by_cases h1 : m < l.length
  · repeat' (first
      | (refine sw_seq ?_) | (refine sw_block ?_) | (refine sw_skip ?_) | (refine sw_ret ?_) | (refine sw_exit ?_)
      | (refine n_then ?_) | (refine r_then ?_) | (refine e_then ?_) | (refine n_block ?_) | (refine r_block ?_) | (refine e_block ?_) | (refine o_block rfl ?_)
      | (refine sw_run (by simp [h1]; exact Is.mk _) ?_)
      | (refine sw_true (by simp [h1]; exact Is.mk _) ?_) | (refine sw_false (by simp [h1]; exact Is.mk _) ?_)
      | (refine sw_yes (by simp; exact Is.mk _) (by assumption) ?_)
      | (refine sw_no (by simp; exact Is.mk _) (by assumption) ?_)
      | (refine sw_if (by simp; exact Is.mk _) (fun _ => ?_) (fun _ => ?_)))
    exact end_val (by simp; exact Is.mk _) (by simp [hn0, hn]) ⟨rfl, by simp [fewC]; omega⟩
  · have hl : Small l.length := Small.mk (by omega)
    repeat' (first
      | (refine sw_seq ?_) | (refine sw_block ?_) | (refine sw_skip ?_) | (refine sw_ret ?_) | (refine sw_exit ?_)
      | (refine n_then ?_) | (refine r_then ?_) | (refine e_then ?_) | (refine n_block ?_) | (refine r_block ?_) | (refine e_block ?_) | (refine o_block rfl ?_)
      | (refine sw_run (by simp [h1]; exact Is.mk _) ?_)
      | (refine sw_true (by simp [h1]; exact Is.mk _) ?_) | (refine sw_false (by simp [h1]; exact Is.mk _) ?_)
      | (refine sw_yes (by simp; exact Is.mk _) (by assumption) ?_)
      | (refine sw_no (by simp; exact Is.mk _) (by assumption) ?_)
      | (refine sw_if (by simp; exact Is.mk _) (fun _ => ?_) (fun _ => ?_)))
    refine sw_loopI (α := Nat) (fun k => [(2, ai q), (3, .ptr n 0 0 0), (7, ai k)])
      (fun k => [(n, schedB l)]) (fun _ => n + 1)
      (fun k => k ≤ l.length ∧ fewL q (l.drop k) = fewL q l) (fun k => l.length - k) 0 (by simp) ?_ ?_ ?_
    · intro _
      exact weak_cut_hp (by simp) (by simp) (by simp)
    · intro x
      exact fresh_of hF (by omega) (by simp)
    · rintro k ⟨hk, hd⟩
      by_cases hlt : k < l.length
      · obtain ⟨x, hx⟩ := get_lt hlt
        have hw := wrap_succ hlt hl
        rw [drop_cons hx] at hd
        simp only [fewL] at hd
        by_cases h2 : q < x.length
        · repeat' (first
            | (refine sw_seq ?_) | (refine sw_block ?_) | (refine sw_skip ?_) | (refine sw_ret ?_) | (refine sw_exit ?_)
            | (refine n_then ?_) | (refine r_then ?_) | (refine e_then ?_) | (refine n_block ?_) | (refine r_block ?_) | (refine e_block ?_) | (refine o_block rfl ?_)
            | (refine sw_run (by simp [hx, h2]; exact Is.mk _) ?_)
            | (refine sw_true (by simp [hx, h2]; exact Is.mk _) ?_) | (refine sw_false (by simp [hx, h2]; exact Is.mk _) ?_)
            | (refine sw_yes (by simp; exact Is.mk _) (by assumption) ?_)
            | (refine sw_no (by simp; exact Is.mk _) (by assumption) ?_)
            | (refine sw_if (by simp; exact Is.mk _) (fun _ => ?_) (fun _ => ?_)))
          exact end_val (by simp; exact Is.mk _) (by simp [hn0, hn]) ⟨rfl, by rw [show decide ((x.length : Int) ≤ q) = false by simp; omega] at hd; simp [fewC, ← hd]⟩
        · repeat' (first
            | (refine sw_seq ?_) | (refine sw_block ?_) | (refine sw_skip ?_) | (refine sw_ret ?_) | (refine sw_exit ?_)
            | (refine n_then ?_) | (refine r_then ?_) | (refine e_then ?_) | (refine n_block ?_) | (refine r_block ?_) | (refine e_block ?_) | (refine o_block rfl ?_)
            | (refine sw_run (by simp [hx, h2, hw]; exact Is.mk _) ?_)
            | (refine sw_true (by simp [hx, h2, hw]; exact Is.mk _) ?_) | (refine sw_false (by simp [hx, h2, hw]; exact Is.mk _) ?_)
            | (refine sw_yes (by simp; exact Is.mk _) (by assumption) ?_)
            | (refine sw_no (by simp; exact Is.mk _) (by assumption) ?_)
            | (refine sw_if (by simp; exact Is.mk _) (fun _ => ?_) (fun _ => ?_)))
          exact ⟨k + 1, ⟨by omega, by rw [show decide ((x.length : Int) ≤ q) = true by simp; omega] at hd; simpa using hd⟩, by omega, weak_cut_hp (by simp) (by simp) (by simp)⟩
      · obtain rfl : k = l.length := by omega
        simp only [List.drop_length, fewL] at hd
        repeat' (first
          | (refine sw_seq ?_) | (refine sw_block ?_) | (refine sw_skip ?_) | (refine sw_ret ?_) | (refine sw_exit ?_)
          | (refine n_then ?_) | (refine r_then ?_) | (refine e_then ?_) | (refine n_block ?_) | (refine r_block ?_) | (refine e_block ?_) | (refine o_block rfl ?_)
          | (refine sw_run (by simp []; exact Is.mk _) ?_)
          | (refine sw_true (by simp []; exact Is.mk _) ?_) | (refine sw_false (by simp []; exact Is.mk _) ?_)
          | (refine sw_yes (by simp; exact Is.mk _) (by assumption) ?_)
          | (refine sw_no (by simp; exact Is.mk _) (by assumption) ?_)
          | (refine sw_if (by simp; exact Is.mk _) (fun _ => ?_) (fun _ => ?_)))
        exact end_val (by simp; exact Is.mk _) (by simp [hn0, hn]) ⟨rfl, by simp [fewC, ← hd]; omega⟩

/-! ### placed -/

def placeOne (gs : List Gate) (out : List Int) (n i : Int) : Option (List Int) :=
  if 0 ≤ i ∧ i < gs.length ∧ (gs[i.toNat]?).map Gate.kind = some 6 ∧ out[i.toNat]? = some 0 then some (out.set i.toNat (n + 1)) else none
def placeLayer (gs : List Gate) (out : List Int) (n : Int) : List Int → Option (List Int)
  | [] => some out
  | i :: r => (placeOne gs out n i).bind fun o => placeLayer gs o n r
def placeAll (gs : List Gate) (out : List Int) (n : Int) : List (List Int) → Option (List Int)
  | [] => some out
  | l :: r => (placeLayer gs out n l).bind fun o => placeAll gs o (n + 1) r
def placedV : Option (List Int) → AV
  | some o => .tup [.p (.sl 1 (ints o)), ab true]
  | none => .tup [.p (.sl 1 []), ab false]

section
variable {P : Program} {F : AHeap} {t : Slots} {L : Locs} {n : Nat}
/-- The end: a row of the call's own is handed back, with a plain value behind it. -/
theorem end_own2 {rs : List ResultVar} {R : AV → AHeap → Prop} {id ver len sz : Nat} {x : PV} {e : TypeId} {es : List (List PV)} {ro : List (List AV)} (hr : Is (ares P t (hp F L) rs) (some (.tup [.own id ver 0 len, .p x]))) (hk : Is (hp F L id) (some (.row ver e sz ro)))
    (he : ro = pcells es) (hl : len = es.length) (hid : F id = none) (hs : shed F [] L) (H : R (.tup [.p (.sl sz es), .p x]) F) : send P F rs R .ret t L n := by
  subst he hl
  refine end_ret hr (fun _ => weak_frozen (es := es) hk hid ?_ hs) H
  simp [conv, convL, frzA_own]
theorem end_nil2 {rs : List ResultVar} {R : AV → AHeap → Prop} {sz : Nat} {x : PV} (hr : Is (ares P t (hp F L) rs) (some (.tup [.p (.v (.slice none 0 0)), .p x]))) (hs : shed F [] L) (H : R (.tup [.p (.sl sz []), .p x]) F) : send P F rs R .ret t L n :=
  end_ret hr (fun _ => WeakL.trans (weak_plain (by simp [conv, convL]) hs) (by
    intro G0 G w vs ha hl hh hr
    refine ⟨G, hl, hh, ?_⟩
    cases vs with
    | nil => simp [RelL] at hr
    | cons v vs =>
      simp only [RelL] at hr ⊢
      refine ⟨?_, hr.2⟩
      have h1 := hr.1
      simp only [Rel] at h1 ⊢
      obtain ⟨us, e1, h1⟩ := h1
      refine ⟨us, e1, ?_⟩
      revert h1
      cases us.toList with
      | nil => simp [RelL]
      | cons u us =>
        simp only [RelL]
        exact fun h => ⟨nil_rel h.1, h.2⟩)) H
end

theorem placeOne_none {gs : List Gate} {out : List Int} {n i : Int} (h : ¬ (0 ≤ i ∧ i < gs.length ∧ (gs[i.toNat]?).map Gate.kind = some 6 ∧ out[i.toNat]? = some 0)) : placeOne gs out n i = none := if_neg h

set_option maxHeartbeats 2000000 in
theorem placed_spec (p : Int) (gs : List Gate) (os : List Int) (l : List (List Int)) (hgs : Small gs.length) (hl : Small l.length) (hll : ∀ x ∈ l, Small x.length) :
    Pure Try.prog 23 [circA p gs os, schedA l] (placedV (placeAll gs (List.replicate gs.length 0) 0 l)) := by
  refine pure_of Try.func23 rfl Try.ntmps23 (by simp) fun F n hF hn hn0 => ?_
  unfold circA schedA
  repeat' (first
    | (refine sw_seq ?_) | (refine sw_block ?_) | (refine sw_skip ?_) | (refine sw_ret ?_) | (refine sw_exit ?_)
    | (refine n_then ?_) | (refine r_then ?_) | (refine e_then ?_) | (refine n_block ?_) | (refine r_block ?_) | (refine e_block ?_) | (refine o_block rfl ?_)
    | (refine sw_run (by simp [hgs]; exact Is.mk _) ?_)
    | (refine sw_true (by simp [hgs]; exact Is.mk _) ?_) | (refine sw_false (by simp [hgs]; exact Is.mk _) ?_)
    | (refine sw_yes (by simp; exact Is.mk _) (by assumption) ?_)
    | (refine sw_no (by simp; exact Is.mk _) (by assumption) ?_)
    | (refine sw_if (by simp; exact Is.mk _) (fun _ => ?_) (fun _ => ?_)))
  refine sw_loopI (α := Nat × List Int) (fun x => [(2, .ptr n 0 0 0), (3, .ptr (n + 1) 0 0 0), (6, .own (n + 2) 0 0 gs.length), (16, .p (.sl 1 (lays l))), (17, ai l.length), (18, ai x.1)])
    (fun x => [(n + 2, .row 0 3 1 (rints x.2)), (n + 1, schedB l), (n, circB p gs os)]) (fun _ => n + 3)
    (fun x => x.1 ≤ l.length ∧ x.2.length = gs.length ∧ placeAll gs x.2 x.1 (l.drop x.1) = placeAll gs (List.replicate gs.length 0) 0 l) (fun x => l.length - x.1) (0, List.replicate gs.length 0) (by simp) ?_ ?_ ?_
  · intro _
    exact weak_cut_hp (by simp) (by simp [rints_zero]; omega) (by simp)
  · intro x
    exact fresh_of hF (by omega) (by simp)
  · rintro ⟨d, out⟩ ⟨hd, hlen, hR⟩
    simp only at hd hlen hR ⊢
    by_cases hlt : d < l.length
    · obtain ⟨y, hy⟩ := get_lt hlt
      have hyl : Small y.length := hll y (List.mem_of_getElem? hy)
      have hw := wrap_succ hlt hl
      rw [drop_cons hy] at hR
      simp only [placeAll] at hR
      repeat' (first
        | (refine sw_seq ?_) | (refine sw_block ?_) | (refine sw_skip ?_) | (refine sw_ret ?_) | (refine sw_exit ?_)
        | (refine n_then ?_) | (refine r_then ?_) | (refine e_then ?_) | (refine n_block ?_) | (refine r_block ?_) | (refine e_block ?_) | (refine o_block rfl ?_)
        | (refine sw_run (by simp [hy]; exact Is.mk _) ?_)
        | (refine sw_true (by simp [hy]; exact Is.mk _) ?_) | (refine sw_false (by simp [hy]; exact Is.mk _) ?_)
        | (refine sw_yes (by simp; exact Is.mk _) (by assumption) ?_)
        | (refine sw_no (by simp; exact Is.mk _) (by assumption) ?_)
        | (refine sw_if (by simp; exact Is.mk _) (fun _ => ?_) (fun _ => ?_)))
      refine sw_loopI (α := Nat × List Int) (fun z => [(2, .ptr n 0 0 0), (3, .ptr (n + 1) 0 0 0), (6, .own (n + 2) 0 0 gs.length), (7, ai d), (16, .p (.sl 1 (lays l))), (17, ai l.length), (18, ai d), (23, .p (.sl 1 (ints y))), (24, ai y.length), (25, ai z.1)])
        (fun z => [(n + 2, .row 0 3 1 (rints z.2)), (n + 1, schedB l), (n, circB p gs os)]) (fun _ => n + 3)
        (fun z => z.1 ≤ y.length ∧ z.2.length = gs.length ∧ ((placeLayer gs z.2 d (y.drop z.1)).bind fun o => placeAll gs o (d + 1) (l.drop (d + 1))) = placeAll gs (List.replicate gs.length 0) 0 l) (fun z => y.length - z.1) (0, out) (by simp only [List.drop_zero]; exact ⟨Nat.zero_le _, hlen, hR⟩) ?_ ?_ ?_
      · intro _
        exact weak_cut_hp (by simp) (by simp) (by simp)
      · intro x
        exact fresh_of hF (by omega) (by simp)
      · rintro ⟨j, o⟩ ⟨hj, hlen2, hR2⟩
        simp only at hj hlen2 hR2 ⊢
        by_cases hjl : j < y.length
        · obtain ⟨i, hi⟩ := get_lt hjl
          have hwj := wrap_succ hjl hyl
          rw [drop_cons hi] at hR2
          simp only [placeLayer] at hR2
          by_cases c1 : i < 0
          · rw [placeOne_none (by omega)] at hR2
            simp only [Option.bind_none] at hR2
            repeat' (first
              | (refine sw_seq ?_) | (refine sw_block ?_) | (refine sw_skip ?_) | (refine sw_ret ?_) | (refine sw_exit ?_)
              | (refine n_then ?_) | (refine r_then ?_) | (refine e_then ?_) | (refine n_block ?_) | (refine r_block ?_) | (refine e_block ?_) | (refine o_block rfl ?_)
              | (refine sw_run (by simp [hi, c1]; exact Is.mk _) ?_)
              | (refine sw_true (by simp [hi, c1]; exact Is.mk _) ?_) | (refine sw_false (by simp [hi, c1]; exact Is.mk _) ?_)
              | (refine sw_yes (by simp; exact Is.mk _) (by assumption) ?_)
              | (refine sw_no (by simp; exact Is.mk _) (by assumption) ?_)
              | (refine sw_if (by simp; exact Is.mk _) (fun _ => ?_) (fun _ => ?_)))
            exact end_nil2 (sz := 1) (by simp; exact Is.mk _) (by simp [hn0, hn]) ⟨rfl, by rw [← hR2]; rfl⟩
          · by_cases c2 : (gs.length : Int) ≤ i
            · rw [placeOne_none (by omega)] at hR2
              simp only [Option.bind_none] at hR2
              repeat' (first
                | (refine sw_seq ?_) | (refine sw_block ?_) | (refine sw_skip ?_) | (refine sw_ret ?_) | (refine sw_exit ?_)
                | (refine n_then ?_) | (refine r_then ?_) | (refine e_then ?_) | (refine n_block ?_) | (refine r_block ?_) | (refine e_block ?_) | (refine o_block rfl ?_)
                | (refine sw_run (by simp [hi, c1, c2]; exact Is.mk _) ?_)
                | (refine sw_true (by simp [hi, c1, c2]; exact Is.mk _) ?_) | (refine sw_false (by simp [hi, c1, c2]; exact Is.mk _) ?_)
                | (refine sw_yes (by simp; exact Is.mk _) (by assumption) ?_)
                | (refine sw_no (by simp; exact Is.mk _) (by assumption) ?_)
                | (refine sw_if (by simp; exact Is.mk _) (fun _ => ?_) (fun _ => ?_)))
              exact end_nil2 (sz := 1) (by simp; exact Is.mk _) (by simp [hn0, hn]) ⟨rfl, by rw [← hR2]; rfl⟩
            · obtain ⟨i, rfl⟩ : ∃ m : Nat, i = m := ⟨i.toNat, by omega⟩
              have hil : i < gs.length := by omega
              have hig : ¬ gs.length ≤ i := by omega
              obtain ⟨g, hg⟩ := get_lt hil
              have hgg : gs[i] = g := by rw [List.getElem?_eq_getElem hil] at hg; exact Option.some.inj hg
              obtain ⟨v, hv⟩ := get_lt (l := o) (k := i) (by omega)
              by_cases c3 : g.kind = 6
              · by_cases c4 : v = 0
                · have e : placeOne gs o d i = some (o.set i (d + 1)) := by unfold placeOne; rw [if_pos ⟨by omega, by omega, by simp only [Int.toNat_natCast, hg, Option.map_some, c3], by simp only [Int.toNat_natCast, hv, c4]⟩]; simp
                  rw [e] at hR2
                  simp only [Option.bind_some] at hR2
                  subst c4
                  repeat' (first
                    | (refine sw_seq ?_) | (refine sw_block ?_) | (refine sw_skip ?_) | (refine sw_ret ?_) | (refine sw_exit ?_)
                    | (refine n_then ?_) | (refine r_then ?_) | (refine e_then ?_) | (refine n_block ?_) | (refine r_block ?_) | (refine e_block ?_) | (refine o_block rfl ?_)
                    | (refine sw_run (by simp [hi, c1, hig, hil, hg, hgg, gateC, hv, c3, hw, hwj]; exact Is.mk _) ?_)
                    | (refine sw_true (by simp [hi, c1, hig, hil, hg, hgg, gateC, hv, c3, hw, hwj]; exact Is.mk _) ?_) | (refine sw_false (by simp [hi, c1, hig, hil, hg, hgg, gateC, hv, c3, hw, hwj]; exact Is.mk _) ?_)
                    | (refine sw_yes (by simp; exact Is.mk _) (by assumption) ?_)
                    | (refine sw_no (by simp; exact Is.mk _) (by assumption) ?_)
                    | (refine sw_if (by simp; exact Is.mk _) (fun _ => ?_) (fun _ => ?_)))
                  exact ⟨(j + 1, o.set i (d + 1)), ⟨by simp only; omega, by simp [hlen2], hR2⟩, by simp only; omega, weak_cut_hp (by simp) (by simp [rints_set]) (by simp)⟩
                · rw [placeOne_none (by simp [hv, c4])] at hR2
                  simp only [Option.bind_none] at hR2
                  repeat' (first
                    | (refine sw_seq ?_) | (refine sw_block ?_) | (refine sw_skip ?_) | (refine sw_ret ?_) | (refine sw_exit ?_)
                    | (refine n_then ?_) | (refine r_then ?_) | (refine e_then ?_) | (refine n_block ?_) | (refine r_block ?_) | (refine e_block ?_) | (refine o_block rfl ?_)
                    | (refine sw_run (by simp [hi, c1, hig, hil, hg, hgg, gateC, hv, c3, c4]; exact Is.mk _) ?_)
                    | (refine sw_true (by simp [hi, c1, hig, hil, hg, hgg, gateC, hv, c3, c4]; exact Is.mk _) ?_) | (refine sw_false (by simp [hi, c1, hig, hil, hg, hgg, gateC, hv, c3, c4]; exact Is.mk _) ?_)
                    | (refine sw_yes (by simp; exact Is.mk _) (by assumption) ?_)
                    | (refine sw_no (by simp; exact Is.mk _) (by assumption) ?_)
                    | (refine sw_if (by simp; exact Is.mk _) (fun _ => ?_) (fun _ => ?_)))
                  exact end_nil2 (sz := 1) (by simp; exact Is.mk _) (by simp [hn0, hn]) ⟨rfl, by rw [← hR2]; rfl⟩
              · rw [placeOne_none (by simp [hg, c3])] at hR2
                simp only [Option.bind_none] at hR2
                repeat' (first
                  | (refine sw_seq ?_) | (refine sw_block ?_) | (refine sw_skip ?_) | (refine sw_ret ?_) | (refine sw_exit ?_)
                  | (refine n_then ?_) | (refine r_then ?_) | (refine e_then ?_) | (refine n_block ?_) | (refine r_block ?_) | (refine e_block ?_) | (refine o_block rfl ?_)
                  | (refine sw_run (by simp [hi, c1, hig, hil, hg, hgg, gateC, hv, c3]; exact Is.mk _) ?_)
                  | (refine sw_true (by simp [hi, c1, hig, hil, hg, hgg, gateC, hv, c3]; exact Is.mk _) ?_) | (refine sw_false (by simp [hi, c1, hig, hil, hg, hgg, gateC, hv, c3]; exact Is.mk _) ?_)
                  | (refine sw_yes (by simp; exact Is.mk _) (by assumption) ?_)
                  | (refine sw_no (by simp; exact Is.mk _) (by assumption) ?_)
                  | (refine sw_if (by simp; exact Is.mk _) (fun _ => ?_) (fun _ => ?_)))
                exact end_nil2 (sz := 1) (by simp; exact Is.mk _) (by simp [hn0, hn]) ⟨rfl, by rw [← hR2]; rfl⟩
        · obtain rfl : j = y.length := by omega
          simp only [List.drop_length, placeLayer, Option.bind_some] at hR2
          repeat' (first
            | (refine sw_seq ?_) | (refine sw_block ?_) | (refine sw_skip ?_) | (refine sw_ret ?_) | (refine sw_exit ?_)
            | (refine n_then ?_) | (refine r_then ?_) | (refine e_then ?_) | (refine n_block ?_) | (refine r_block ?_) | (refine e_block ?_) | (refine o_block rfl ?_)
            | (refine sw_run (by simp [hw]; exact Is.mk _) ?_)
            | (refine sw_true (by simp [hw]; exact Is.mk _) ?_) | (refine sw_false (by simp [hw]; exact Is.mk _) ?_)
            | (refine sw_yes (by simp; exact Is.mk _) (by assumption) ?_)
            | (refine sw_no (by simp; exact Is.mk _) (by assumption) ?_)
            | (refine sw_if (by simp; exact Is.mk _) (fun _ => ?_) (fun _ => ?_)))
          exact ⟨(d + 1, o), ⟨by simp only; omega, hlen2, by simpa using hR2⟩, by simp only; omega, weak_cut_hp (by simp) (by simp) (by simp)⟩
    · obtain rfl : d = l.length := by omega
      simp only [List.drop_length, placeAll] at hR
      repeat' (first
        | (refine sw_seq ?_) | (refine sw_block ?_) | (refine sw_skip ?_) | (refine sw_ret ?_) | (refine sw_exit ?_)
        | (refine n_then ?_) | (refine r_then ?_) | (refine e_then ?_) | (refine n_block ?_) | (refine r_block ?_) | (refine e_block ?_) | (refine o_block rfl ?_)
        | (refine sw_run (by simp []; exact Is.mk _) ?_)
        | (refine sw_true (by simp []; exact Is.mk _) ?_) | (refine sw_false (by simp []; exact Is.mk _) ?_)
        | (refine sw_yes (by simp; exact Is.mk _) (by assumption) ?_)
        | (refine sw_no (by simp; exact Is.mk _) (by assumption) ?_)
        | (refine sw_if (by simp; exact Is.mk _) (fun _ => ?_) (fun _ => ?_)))
      exact end_own2 (es := ints out) (by simp; exact Is.mk _) (by simp; exact Is.mk _) rfl (by simp [hlen]) (hn 2) (by simp [hn0, hn]) ⟨rfl, by rw [← hR]; rfl⟩

end Go.AM
