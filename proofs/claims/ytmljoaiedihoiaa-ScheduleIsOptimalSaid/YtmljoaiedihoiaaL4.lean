/- The law ScheduleIsOptimal. -/
import Derived.Test.YtmljoaiedihoiaaS14
import Derived.Test.YtmljoaiedihoiaaL1
import Derived.Test.YtmljoaiedihoiaaP2
namespace Go.AM
set_option linter.unusedVariables false
set_option linter.unusedSimpArgs false
open Go Go.RowKit Go.Proofs

theorem validFrom_ge {gs : List Gate} (h : opsOk gs) (hs : Small gs.length) {at_ : List Int} : ∀ (rest : List Gate) (i : Nat) (last : List Int), rest = gs.drop i → last.length = gs.length → (∀ j, 0 ≤ last.getD j 0) → (∀ j, j < i → (dep gs).getD j 0 ≤ last.getD j 0) →
    validFrom at_ last i rest = true → ∀ (j : Nat) (g : Gate), rest[j]? = some g → g.kind = 6 → (dep gs).getD (i + j) 0 ≤ at_.getD (i + j) 0
  | [], _, _, _, _, _, _, _, j, g, hg, _ => by simp at hg
  | g :: rest, i, last, hr, hl, h0, hd, hv, j, g', hg', h6' => by
    have hg : gs[i]? = some g := by have := congrArg (·[0]?) hr; simp at this; exact this.symm
    have hi := (List.getElem?_eq_some_iff.1 hg).1
    have hr' : rest = gs.drop (i + 1) := by have := congrArg List.tail hr; simpa using this
    have hne : ∀ k ∈ namedL g, k.toNat ≠ i := fun k hk => by have := h i g hg k hk; omega
    have hval := depIn_val (ks := namedL g) (out := last) (i := i) (by omega) hne (h0 i)
    have hmx : mxL (fun k => (dep gs).getD k.toNat 0) (namedL g) ≤ mxL (fun k => last.getD k.toNat 0) (namedL g) := mxL_le2 fun k hk => by
      have := h i g hg k hk
      exact hd k.toNat (by omega)
    have hde := dep_eq h hs hg
    have hnn := mxL_nonneg (fun k => (dep gs).getD k.toNat 0) (namedL g)
    simp only [validFrom] at hv
    split at hv
    · rename_i h6
      rw [if_pos h6] at hde
      split at hv
      · cases hv
      · rename_i hc
        have hge : (dep gs).getD i 0 ≤ at_.getD i 0 := by omega
        cases j with
        | zero => exact hge
        | succ j =>
          have := validFrom_ge h hs rest (i + 1) _ hr' (by simp [depIn_len, hl]) (fun q => ?_) (fun q hq => ?_) hv j g' (by simpa using hg') h6'
          · rwa [show i + 1 + j = i + (j + 1) by omega] at this
          · rw [getD_set]
            split
            · omega
            · by_cases e : q = i
              · subst e; rw [hval]; have := h0 q; omega
              · rw [depIn_ne e]; exact h0 q
          · rw [getD_set, depIn_len]
            split
            · rename_i e; rw [← e.1]; exact hge
            · rename_i e
              have hqi : q ≠ i := fun e2 => e ⟨e2.symm, by omega⟩
              rw [depIn_ne hqi]; exact hd q (by omega)
    · rename_i h6
      rw [if_neg h6] at hde
      have hge : (dep gs).getD i 0 ≤ (depIn last i (namedL g)).getD i 0 := by omega
      cases j with
      | zero => simp at hg'; subst hg'; exact absurd h6' h6
      | succ j =>
        have := validFrom_ge h hs rest (i + 1) _ hr' (by simp [depIn_len, hl]) (fun q => ?_) (fun q hq => ?_) hv j g' (by simpa using hg') h6'
        · rwa [show i + 1 + j = i + (j + 1) by omega] at this
        · by_cases e : q = i
          · subst e; rw [hval]; have := h0 q; omega
          · rw [depIn_ne e]; exact h0 q
        · by_cases e : q = i
          · subst e; exact hge
          · rw [depIn_ne e]; exact hd q (by omega)

theorem valid_ge {gs : List Gate} (h : opsOk gs) (hs : Small gs.length) {l : List (List Int)} {at_ : List Int} (hp : placeAll gs (List.replicate gs.length 0) 0 l = some at_) (hv : validS gs l = true) {i : Nat} {g : Gate} (hg : gs[i]? = some g) (h6 : g.kind = 6) :
    (dep gs).getD i 0 ≤ at_.getD i 0 := by
  unfold validS at hv
  rw [hp] at hv
  have := validFrom_ge h hs gs 0 (List.replicate gs.length 0) (by simp) (by simp) (fun j => by rw [zeros_get]; omega) (fun j hj => by omega) hv i g hg h6
  rwa [Nat.zero_add] at this

theorem placeOne_some {gs : List Gate} {out o : List Int} {n i : Int} (h : placeOne gs out n i = some o) : 0 ≤ i ∧ i < gs.length ∧ o = out.set i.toNat (n + 1) := by
  unfold placeOne at h
  split at h
  · rename_i hc
    cases h
    exact ⟨hc.1, hc.2.1, rfl⟩
  · cases h
theorem placeOne_bd {gs : List Gate} {out o : List Int} {n i B : Int} (h : placeOne gs out n i = some o) (hB : ∀ j, out.getD j 0 ≤ B) (hn : n + 1 ≤ B) (j : Nat) : o.getD j 0 ≤ B := by
  obtain ⟨_, _, rfl⟩ := placeOne_some h
  rw [getD_set]
  split
  · exact hn
  · exact hB j
theorem placeLayer_bd {gs : List Gate} {n B : Int} (hn : n + 1 ≤ B) : ∀ {l : List Int} {out o : List Int}, placeLayer gs out n l = some o → (∀ j, out.getD j 0 ≤ B) → ∀ j, o.getD j 0 ≤ B
  | [], _, _, h, hB, j => by simp only [placeLayer] at h; cases h; exact hB j
  | i :: l, out, o, h, hB, j => by
    simp only [placeLayer, Option.bind_eq_some_iff] at h
    obtain ⟨o1, h1, h2⟩ := h
    exact placeLayer_bd hn h2 (placeOne_bd h1 hB hn) j
theorem placeAll_bd {gs : List Gate} {B : Int} : ∀ {l : List (List Int)} {n : Int} {out o : List Int}, placeAll gs out n l = some o → (∀ j, out.getD j 0 ≤ B) → n + l.length ≤ B → ∀ j, o.getD j 0 ≤ B
  | [], _, _, _, h, hB, _, j => by simp only [placeAll] at h; cases h; exact hB j
  | x :: l, n, out, o, h, hB, hn, j => by
    simp only [placeAll, Option.bind_eq_some_iff] at h
    obtain ⟨o1, h1, h2⟩ := h
    simp only [List.length_cons] at hn
    exact placeAll_bd h2 (placeLayer_bd (by omega) h1 hB) (by omega) j

theorem most_le {gs : List Gate} (h : opsOk gs) (hs : Small gs.length) {l : List (List Int)} {at_ : List Int} (hp : placeAll gs (List.replicate gs.length 0) 0 l = some at_) (hv : validS gs l = true) : mostFrom (dep gs) 0 gs ≤ l.length :=
  mostFrom_le fun j g hg h6 => by
    have h1 := valid_ge h hs hp hv hg h6
    have h2 := placeAll_bd (B := l.length) hp (fun j => by rw [zeros_get]; omega) (by omega) j
    rw [Nat.zero_add]
    omega

/-- The law's own list against 'placed'. -/
def Tal (o a : List Int) : Prop := ∀ j : Nat, o.getD j 0 ≠ 0 → a.getD j 0 = o.getD j 0 - 1
theorem tal_set {o a : List Int} (h : Tal o a) (hl : a.length = o.length) (i d : Nat) : Tal (o.set i ((d : Int) + 1)) (a.set i d) := by
  intro j hj
  rw [getD_set] at hj ⊢
  rw [getD_set]
  by_cases e : i = j ∧ i < o.length
  · rw [if_pos e, if_pos ⟨e.1, by omega⟩]; omega
  · rw [if_neg e] at hj ⊢
    rw [if_neg (fun e2 => e ⟨e2.1, by omega⟩)]
    exact h j hj

set_option maxHeartbeats 2000000 in
theorem law_optimal (p : Int) (gs : List Gate) (os : List Int) (l : List (List Int)) : Pure Try.prog 4 [circA p gs os, schedA l] (ab true) := by
  refine pure_of Try.func4 rfl Try.ntmps4 (by simp) fun F n hF hn hn0 => ?_
  unfold circA schedA
  repeat' (first
    | (refine sw_seq ?_) | (refine sw_block ?_) | (refine sw_skip ?_) | (refine sw_ret ?_) | (refine sw_exit ?_)
    | (refine n_then ?_) | (refine r_then ?_) | (refine e_then ?_) | (refine n_block ?_) | (refine r_block ?_) | (refine e_block ?_) | (refine o_block rfl ?_)
    | (refine sw_run (by simp [-getElem?_pos, List.getElem?_cons_zero, List.getElem?_cons_succ, ]; exact Is.mk _) ?_)
    | (refine sw_true (by simp [-getElem?_pos, List.getElem?_cons_zero, List.getElem?_cons_succ, ]; exact Is.mk _) ?_) | (refine sw_false (by simp [-getElem?_pos, List.getElem?_cons_zero, List.getElem?_cons_succ, ]; exact Is.mk _) ?_)
    | (refine sw_yes (by simp; exact Is.mk _) (by assumption) ?_)
    | (refine sw_no (by simp; exact Is.mk _) (by assumption) ?_)
    | (refine sw_if (by simp; exact Is.mk _) (fun _ => ?_) (fun _ => ?_)))
  refine sw_ss ?_
  repeat (refine ss_op rfl (by simp [-getElem?_pos, List.getElem?_cons_zero, List.getElem?_cons_succ, ]; exact Is.mk _) ?_)
  refine ss_pure rfl rfl rfl (by simp [-getElem?_pos, List.getElem?_cons_zero, List.getElem?_cons_succ]; exact Is.mk _) (by kernel_rfl) (awake_spec) ?_
  refine ss_all (by simp [-getElem?_pos, List.getElem?_cons_zero, List.getElem?_cons_succ, ]; exact Is.mk _) ?_
  repeat' (first
    | (refine sw_seq ?_) | (refine sw_block ?_) | (refine sw_skip ?_) | (refine sw_ret ?_) | (refine sw_exit ?_)
    | (refine n_then ?_) | (refine r_then ?_) | (refine e_then ?_) | (refine n_block ?_) | (refine r_block ?_) | (refine e_block ?_) | (refine o_block rfl ?_)
    | (refine sw_run (by simp [-getElem?_pos, List.getElem?_cons_zero, List.getElem?_cons_succ, ]; exact Is.mk _) ?_)
    | (refine sw_true (by simp [-getElem?_pos, List.getElem?_cons_zero, List.getElem?_cons_succ, ]; exact Is.mk _) ?_) | (refine sw_false (by simp [-getElem?_pos, List.getElem?_cons_zero, List.getElem?_cons_succ, ]; exact Is.mk _) ?_)
    | (refine sw_yes (by simp; exact Is.mk _) (by assumption) ?_)
    | (refine sw_no (by simp; exact Is.mk _) (by assumption) ?_)
    | (refine sw_if (by simp; exact Is.mk _) (fun _ => ?_) (fun _ => ?_)))
  refine sw_ss ?_
  repeat (refine ss_op rfl (by simp [-getElem?_pos, List.getElem?_cons_zero, List.getElem?_cons_succ, ]; exact Is.mk _) ?_)
  refine ss_pure rfl rfl rfl (by simp [-getElem?_pos, List.getElem?_cons_zero, List.getElem?_cons_succ]; exact Is.mk _) (by kernel_rfl) (small_spec p gs os 200) ?_
  cases h1 : smallC p gs os 200
  · refine ss_all (by simp [-getElem?_pos, List.getElem?_cons_zero, List.getElem?_cons_succ, ]; exact Is.mk _) ?_
    repeat' (first
      | (refine sw_seq ?_) | (refine sw_block ?_) | (refine sw_skip ?_) | (refine sw_ret ?_) | (refine sw_exit ?_)
      | (refine n_then ?_) | (refine r_then ?_) | (refine e_then ?_) | (refine n_block ?_) | (refine r_block ?_) | (refine e_block ?_) | (refine o_block rfl ?_)
      | (refine sw_run (by simp [-getElem?_pos, List.getElem?_cons_zero, List.getElem?_cons_succ, ]; exact Is.mk _) ?_)
      | (refine sw_true (by simp [-getElem?_pos, List.getElem?_cons_zero, List.getElem?_cons_succ, ]; exact Is.mk _) ?_) | (refine sw_false (by simp [-getElem?_pos, List.getElem?_cons_zero, List.getElem?_cons_succ, ]; exact Is.mk _) ?_)
      | (refine sw_yes (by simp; exact Is.mk _) (by assumption) ?_)
      | (refine sw_no (by simp; exact Is.mk _) (by assumption) ?_)
      | (refine sw_if (by simp; exact Is.mk _) (fun _ => ?_) (fun _ => ?_)))
    exact end_val (by simp; exact Is.mk _) (by simp [hn0, hn]) ⟨rfl, rfl⟩
  · obtain ⟨hgs, hops, _, hg200⟩ := small_to (m := 200) h1 (by omega)
    repeat (refine ss_op rfl (by simp [-getElem?_pos, List.getElem?_cons_zero, List.getElem?_cons_succ, ]; exact Is.mk _) ?_)
    refine ss_pure_g rfl (by simp [-getElem?_pos, List.getElem?_cons_zero, List.getElem?_cons_succ, ]; exact Is.mk _) rfl (by simp; exact Is.mk _) (by kernel_rfl) (few_spec l 40 100 (by omega)) ?_
    cases h2 : fewC l 40 100
    · refine ss_all (by simp [-getElem?_pos, List.getElem?_cons_zero, List.getElem?_cons_succ, ]; exact Is.mk _) ?_
      repeat' (first
        | (refine sw_seq ?_) | (refine sw_block ?_) | (refine sw_skip ?_) | (refine sw_ret ?_) | (refine sw_exit ?_)
        | (refine n_then ?_) | (refine r_then ?_) | (refine e_then ?_) | (refine n_block ?_) | (refine r_block ?_) | (refine e_block ?_) | (refine o_block rfl ?_)
        | (refine sw_run (by simp [-getElem?_pos, List.getElem?_cons_zero, List.getElem?_cons_succ, ]; exact Is.mk _) ?_)
        | (refine sw_true (by simp [-getElem?_pos, List.getElem?_cons_zero, List.getElem?_cons_succ, ]; exact Is.mk _) ?_) | (refine sw_false (by simp [-getElem?_pos, List.getElem?_cons_zero, List.getElem?_cons_succ, ]; exact Is.mk _) ?_)
        | (refine sw_yes (by simp; exact Is.mk _) (by assumption) ?_)
        | (refine sw_no (by simp; exact Is.mk _) (by assumption) ?_)
        | (refine sw_if (by simp; exact Is.mk _) (fun _ => ?_) (fun _ => ?_)))
      exact end_val (by simp; exact Is.mk _) (by simp [hn0, hn]) ⟨rfl, rfl⟩
    · obtain ⟨hl, hll⟩ := few_to h2 (by omega) (by omega)
      have hl40 : l.length ≤ 40 := by simp only [fewC, Bool.and_eq_true, decide_eq_true_eq] at h2; omega
      repeat (refine ss_op rfl (by simp [-getElem?_pos, List.getElem?_cons_zero, List.getElem?_cons_succ, ]; exact Is.mk _) ?_)
      refine ss_pure_g rfl (by simp [-getElem?_pos, List.getElem?_cons_zero, List.getElem?_cons_succ, ]; exact Is.mk _) rfl (by simp; exact Is.mk _) (by kernel_rfl) (valid_spec p gs os l hgs hops hl hll) ?_
      cases h3 : validS gs l
      · refine ss_all (by simp [-getElem?_pos, List.getElem?_cons_zero, List.getElem?_cons_succ, ]; exact Is.mk _) ?_
        repeat' (first
          | (refine sw_seq ?_) | (refine sw_block ?_) | (refine sw_skip ?_) | (refine sw_ret ?_) | (refine sw_exit ?_)
          | (refine n_then ?_) | (refine r_then ?_) | (refine e_then ?_) | (refine n_block ?_) | (refine r_block ?_) | (refine e_block ?_) | (refine o_block rfl ?_)
          | (refine sw_run (by simp [-getElem?_pos, List.getElem?_cons_zero, List.getElem?_cons_succ, ]; exact Is.mk _) ?_)
          | (refine sw_true (by simp [-getElem?_pos, List.getElem?_cons_zero, List.getElem?_cons_succ, ]; exact Is.mk _) ?_) | (refine sw_false (by simp [-getElem?_pos, List.getElem?_cons_zero, List.getElem?_cons_succ, ]; exact Is.mk _) ?_)
          | (refine sw_yes (by simp; exact Is.mk _) (by assumption) ?_)
          | (refine sw_no (by simp; exact Is.mk _) (by assumption) ?_)
          | (refine sw_if (by simp; exact Is.mk _) (fun _ => ?_) (fun _ => ?_)))
        exact end_val (by simp; exact Is.mk _) (by simp [hn0, hn]) ⟨rfl, rfl⟩
      · obtain ⟨at_, hp⟩ : ∃ at_, placeAll gs (List.replicate gs.length 0) 0 l = some at_ := by
          unfold validS at h3
          cases h : placeAll gs (List.replicate gs.length 0) 0 l with
          | none => rw [h] at h3; cases h3
          | some a => exact ⟨a, rfl⟩
        have hdep := depsOk_of hops hgs
        have hnew := newS_eq hops hgs
        have hM := most_le hops hgs hp h3
        have hatl : at_.length = gs.length := by rw [placeAll_len hp]; simp
        refine ss_all (by simp [-getElem?_pos, List.getElem?_cons_zero, List.getElem?_cons_succ, ]; exact Is.mk _) ?_
        repeat' (first
          | (refine sw_seq ?_) | (refine sw_block ?_) | (refine sw_skip ?_) | (refine sw_ret ?_) | (refine sw_exit ?_)
          | (refine n_then ?_) | (refine r_then ?_) | (refine e_then ?_) | (refine n_block ?_) | (refine r_block ?_) | (refine e_block ?_) | (refine o_block rfl ?_)
          | (refine sw_run (by simp [-getElem?_pos, List.getElem?_cons_zero, List.getElem?_cons_succ, hgs]; exact Is.mk _) ?_)
          | (refine sw_true (by simp [-getElem?_pos, List.getElem?_cons_zero, List.getElem?_cons_succ, hgs]; exact Is.mk _) ?_) | (refine sw_false (by simp [-getElem?_pos, List.getElem?_cons_zero, List.getElem?_cons_succ, hgs]; exact Is.mk _) ?_)
          | (refine sw_yes (by simp; exact Is.mk _) (by assumption) ?_)
          | (refine sw_no (by simp; exact Is.mk _) (by assumption) ?_)
          | (refine sw_if (by simp; exact Is.mk _) (fun _ => ?_) (fun _ => ?_)))
        refine sw_loopI (α := Nat × List Int × List Int) (fun x => [(2, .ptr n 0 0 0), (3, .ptr (n + 1) 0 0 0), (5, .own (n + 2) 0 0 gs.length), (6, ai x.1)])
          (fun x => [(n + 2, .row 0 3 1 (rints x.2.2)), (n + 1, schedB l), (n, circB p gs os)]) (fun _ => n + 3)
          (fun x => x.1 ≤ l.length ∧ x.2.1.length = gs.length ∧ x.2.2.length = gs.length ∧ placeAll gs x.2.1 x.1 (l.drop x.1) = some at_ ∧ Tal x.2.1 x.2.2) (fun x => l.length - x.1) (0, List.replicate gs.length 0, List.replicate gs.length 0)
          ⟨Nat.zero_le _, by simp, by simp, by simpa using hp, fun j hj => absurd (zeros_get _ _) hj⟩ ?_ ?_ ?_
        · intro _
          exact weak_cut_hp (by simp) (by simp [rints_zero]) (by simp)
        · intro x
          exact fresh_of hF (by omega) (by simp)
        · rintro ⟨d, o, a⟩ ⟨hd, hol, hal, hR, hT⟩
          simp only at hd hol hal hR hT ⊢
          by_cases hlt : d < l.length
          · obtain ⟨y, hy⟩ := get_lt hlt
            have hyl : Small y.length := hll y (List.mem_of_getElem? hy)
            have hw := wrap_succ hlt hl
            rw [drop_cons hy] at hR
            simp only [placeAll, Option.bind_eq_some_iff] at hR
            obtain ⟨o1, hR1, hR2⟩ := hR
            repeat' (first
              | (refine sw_seq ?_) | (refine sw_block ?_) | (refine sw_skip ?_) | (refine sw_ret ?_) | (refine sw_exit ?_)
              | (refine n_then ?_) | (refine r_then ?_) | (refine e_then ?_) | (refine n_block ?_) | (refine r_block ?_) | (refine e_block ?_) | (refine o_block rfl ?_)
              | (refine sw_run (by simp [-getElem?_pos, List.getElem?_cons_zero, List.getElem?_cons_succ, hlt]; exact Is.mk _) ?_)
              | (refine sw_true (by simp [-getElem?_pos, List.getElem?_cons_zero, List.getElem?_cons_succ, hlt]; exact Is.mk _) ?_) | (refine sw_false (by simp [-getElem?_pos, List.getElem?_cons_zero, List.getElem?_cons_succ, hlt]; exact Is.mk _) ?_)
              | (refine sw_yes (by simp; exact Is.mk _) (by assumption) ?_)
              | (refine sw_no (by simp; exact Is.mk _) (by assumption) ?_)
              | (refine sw_if (by simp; exact Is.mk _) (fun _ => ?_) (fun _ => ?_)))
            refine sw_loopI (α := Nat × List Int × List Int) (fun x => [(2, .ptr n 0 0 0), (3, .ptr (n + 1) 0 0 0), (5, .own (n + 2) 0 0 gs.length), (6, ai d), (7, ai x.1)])
              (fun x => [(n + 2, .row 0 3 1 (rints x.2.2)), (n + 1, schedB l), (n, circB p gs os)]) (fun _ => n + 3)
              (fun x => x.1 ≤ y.length ∧ x.2.1.length = gs.length ∧ x.2.2.length = gs.length ∧ placeLayer gs x.2.1 d (y.drop x.1) = some o1 ∧ Tal x.2.1 x.2.2) (fun x => y.length - x.1) (0, o, a) ⟨Nat.zero_le _, hol, hal, by simpa using hR1, hT⟩ ?_ ?_ ?_
            · intro _
              exact weak_cut_hp (by simp) (by simp) (by simp)
            · intro x
              exact fresh_of hF (by omega) (by simp)
            · rintro ⟨j, o, a⟩ ⟨hj, hol, hal, hR, hT⟩
              simp only at hj hol hal hR hT ⊢
              by_cases hjl : j < y.length
              · obtain ⟨i, hi⟩ := get_lt hjl
                have hwj := wrap_succ hjl hyl
                rw [drop_cons hi] at hR
                simp only [placeLayer, Option.bind_eq_some_iff] at hR
                obtain ⟨o2, hR1, hR3⟩ := hR
                obtain ⟨q1, q2, rfl⟩ := placeOne_some hR1
                obtain ⟨i, rfl⟩ : ∃ m : Nat, i = m := ⟨i.toNat, by omega⟩
                have hil : i < gs.length := by omega
                have hnl : ¬ gs.length ≤ i := by omega
                have c1 : ¬ (i : Int) < 0 := by omega
                obtain ⟨v, hv⟩ := get_lt (l := a) (k := i) (by omega)
                repeat' (first
                  | (refine sw_seq ?_) | (refine sw_block ?_) | (refine sw_skip ?_) | (refine sw_ret ?_) | (refine sw_exit ?_)
                  | (refine n_then ?_) | (refine r_then ?_) | (refine e_then ?_) | (refine n_block ?_) | (refine r_block ?_) | (refine e_block ?_) | (refine o_block rfl ?_)
                  | (refine sw_run (by simp [-getElem?_pos, List.getElem?_cons_zero, List.getElem?_cons_succ, hy, hjl, hi, c1, hil, hnl, hv, hwj]; exact Is.mk _) ?_)
                  | (refine sw_true (by simp [-getElem?_pos, List.getElem?_cons_zero, List.getElem?_cons_succ, hy, hjl, hi, c1, hil, hnl, hv, hwj]; exact Is.mk _) ?_) | (refine sw_false (by simp [-getElem?_pos, List.getElem?_cons_zero, List.getElem?_cons_succ, hy, hjl, hi, c1, hil, hnl, hv, hwj]; exact Is.mk _) ?_)
                  | (refine sw_yes (by simp; exact Is.mk _) (by assumption) ?_)
                  | (refine sw_no (by simp; exact Is.mk _) (by assumption) ?_)
                  | (refine sw_if (by simp; exact Is.mk _) (fun _ => ?_) (fun _ => ?_)))
                exact ⟨(j + 1, o.set i ((d : Int) + 1), a.set i d), ⟨by simp only; omega, by simp [hol], by simp [hal], by simpa using hR3, tal_set hT (by omega) i d⟩, by simp only; omega, weak_cut_hp (by simp) (by simp [rints_set]) (by simp)⟩
              · obtain rfl : j = y.length := by omega
                simp only [List.drop_length, placeLayer, Option.some.injEq] at hR
                subst hR
                repeat' (first
                  | (refine sw_seq ?_) | (refine sw_block ?_) | (refine sw_skip ?_) | (refine sw_ret ?_) | (refine sw_exit ?_)
                  | (refine n_then ?_) | (refine r_then ?_) | (refine e_then ?_) | (refine n_block ?_) | (refine r_block ?_) | (refine e_block ?_) | (refine o_block rfl ?_)
                  | (refine sw_run (by simp [-getElem?_pos, List.getElem?_cons_zero, List.getElem?_cons_succ, hy, hw]; exact Is.mk _) ?_)
                  | (refine sw_true (by simp [-getElem?_pos, List.getElem?_cons_zero, List.getElem?_cons_succ, hy, hw]; exact Is.mk _) ?_) | (refine sw_false (by simp [-getElem?_pos, List.getElem?_cons_zero, List.getElem?_cons_succ, hy, hw]; exact Is.mk _) ?_)
                  | (refine sw_yes (by simp; exact Is.mk _) (by assumption) ?_)
                  | (refine sw_no (by simp; exact Is.mk _) (by assumption) ?_)
                  | (refine sw_if (by simp; exact Is.mk _) (fun _ => ?_) (fun _ => ?_)))
                exact ⟨(d + 1, o, a), ⟨by simp only; omega, hol, hal, by simpa using hR2, hT⟩, by simp only; omega, weak_cut_hp (by simp) (by simp) (by simp)⟩
          · obtain rfl : d = l.length := by omega
            simp only [List.drop_length, placeAll, Option.some.injEq] at hR
            subst hR
            have hnl : (newS gs).length ≤ gs.length := newS_length hdep
            have hns : Small (newS gs).length := Small.mk (by omega)
            have hnm : (newS gs).length = mostFrom (dep gs) 0 gs := by rw [hnew]; simp
            repeat' (first
              | (refine sw_seq ?_) | (refine sw_block ?_) | (refine sw_skip ?_) | (refine sw_ret ?_) | (refine sw_exit ?_)
              | (refine n_then ?_) | (refine r_then ?_) | (refine e_then ?_) | (refine n_block ?_) | (refine r_block ?_) | (refine e_block ?_) | (refine o_block rfl ?_)
              | (refine sw_run (by simp [-getElem?_pos, List.getElem?_cons_zero, List.getElem?_cons_succ, ]; exact Is.mk _) ?_)
              | (refine sw_true (by simp [-getElem?_pos, List.getElem?_cons_zero, List.getElem?_cons_succ, ]; exact Is.mk _) ?_) | (refine sw_false (by simp [-getElem?_pos, List.getElem?_cons_zero, List.getElem?_cons_succ, ]; exact Is.mk _) ?_)
              | (refine sw_yes (by simp; exact Is.mk _) (by assumption) ?_)
              | (refine sw_no (by simp; exact Is.mk _) (by assumption) ?_)
              | (refine sw_if (by simp; exact Is.mk _) (fun _ => ?_) (fun _ => ?_)))
            refine sw_ss ?_
            repeat (refine ss_op rfl (by simp [-getElem?_pos, List.getElem?_cons_zero, List.getElem?_cons_succ, ]; exact Is.mk _) ?_)
            refine ss_pure rfl rfl rfl (by simp [-getElem?_pos, List.getElem?_cons_zero, List.getElem?_cons_succ]; exact Is.mk _) (by kernel_rfl) (new_spec p gs os hgs hops hdep) ?_
            refine ss_all (by simp [-getElem?_pos, List.getElem?_cons_zero, List.getElem?_cons_succ, ]; exact Is.mk _) ?_
            repeat' (first
              | (refine sw_seq ?_) | (refine sw_block ?_) | (refine sw_skip ?_) | (refine sw_ret ?_) | (refine sw_exit ?_)
              | (refine n_then ?_) | (refine r_then ?_) | (refine e_then ?_) | (refine n_block ?_) | (refine r_block ?_) | (refine e_block ?_) | (refine o_block rfl ?_)
              | (refine sw_run (by simp [-getElem?_pos, List.getElem?_cons_zero, List.getElem?_cons_succ, ]; exact Is.mk _) ?_)
              | (refine sw_true (by simp [-getElem?_pos, List.getElem?_cons_zero, List.getElem?_cons_succ, ]; exact Is.mk _) ?_) | (refine sw_false (by simp [-getElem?_pos, List.getElem?_cons_zero, List.getElem?_cons_succ, ]; exact Is.mk _) ?_)
              | (refine sw_yes (by simp; exact Is.mk _) (by assumption) ?_)
              | (refine sw_no (by simp; exact Is.mk _) (by assumption) ?_)
              | (refine sw_if (by simp; exact Is.mk _) (fun _ => ?_) (fun _ => ?_)))
            refine sw_loopI (α := Nat) (fun x => [(2, .ptr n 0 0 0), (3, .ptr (n + 1) 0 0 0), (5, .own (n + 2) 0 0 gs.length), (9, .ptr (n + 3) 0 0 0), (10, ai x)])
              (fun x => [(n + 3, schedB (newS gs)), (n + 2, .row 0 3 1 (rints a)), (n + 1, schedB l), (n, circB p gs os)]) (fun _ => n + 4)
              (fun x => x ≤ (newS gs).length) (fun x => (newS gs).length - x) 0 (Nat.zero_le _) ?_ ?_ ?_
            · intro _
              exact weak_cut_hp (by simp) (by simp) (by simp [hn, hn0])
            · intro x
              exact fresh_of hF (by omega) (by simp)
            · intro d hd
              by_cases hlt : d < (newS gs).length
              · obtain ⟨y, hy⟩ := get_lt hlt
                have hysel : y = selFrom (dep gs) (d + 1) 0 gs := by
                  rw [hnew, List.getElem?_map, List.getElem?_range (by omega)] at hy
                  simpa using hy.symm
                have hyl : Small y.length := by
                  have : ∀ (gs : List Gate) (dp : List Int) (i : Nat), (selFrom dp (d + 1) i gs).length ≤ gs.length := by
                    intro gs dp
                    induction gs with
                    | nil => intro i; simp [selFrom]
                    | cons g gs ih => intro i; have := ih (i + 1); simp only [selFrom]; split <;> simp <;> omega
                  have := this gs (dep gs) 0
                  rw [← hysel] at this
                  exact Small.mk (by omega)
                have hw := wrap_succ hlt hns
                repeat' (first
                  | (refine sw_seq ?_) | (refine sw_block ?_) | (refine sw_skip ?_) | (refine sw_ret ?_) | (refine sw_exit ?_)
                  | (refine n_then ?_) | (refine r_then ?_) | (refine e_then ?_) | (refine n_block ?_) | (refine r_block ?_) | (refine e_block ?_) | (refine o_block rfl ?_)
                  | (refine sw_run (by simp [-getElem?_pos, List.getElem?_cons_zero, List.getElem?_cons_succ, hlt]; exact Is.mk _) ?_)
                  | (refine sw_true (by simp [-getElem?_pos, List.getElem?_cons_zero, List.getElem?_cons_succ, hlt]; exact Is.mk _) ?_) | (refine sw_false (by simp [-getElem?_pos, List.getElem?_cons_zero, List.getElem?_cons_succ, hlt]; exact Is.mk _) ?_)
                  | (refine sw_yes (by simp; exact Is.mk _) (by assumption) ?_)
                  | (refine sw_no (by simp; exact Is.mk _) (by assumption) ?_)
                  | (refine sw_if (by simp; exact Is.mk _) (fun _ => ?_) (fun _ => ?_)))
                refine sw_loopI (α := Nat) (fun x => [(2, .ptr n 0 0 0), (3, .ptr (n + 1) 0 0 0), (5, .own (n + 2) 0 0 gs.length), (9, .ptr (n + 3) 0 0 0), (10, ai d), (11, ai x)])
                  (fun x => [(n + 3, schedB (newS gs)), (n + 2, .row 0 3 1 (rints a)), (n + 1, schedB l), (n, circB p gs os)]) (fun _ => n + 4)
                  (fun x => x ≤ y.length) (fun x => y.length - x) 0 (Nat.zero_le _) ?_ ?_ ?_
                · intro _
                  exact weak_cut_hp (by simp) (by simp) (by simp [hn, hn0])
                · intro x
                  exact fresh_of hF (by omega) (by simp)
                · intro j hj
                  by_cases hjl : j < y.length
                  · obtain ⟨i, hi⟩ := get_lt hjl
                    have hwj := wrap_succ hjl hyl
                    have him := List.mem_of_getElem? hi
                    rw [hysel] at him
                    obtain ⟨m, g, hg, h6, e1, e2⟩ := selFrom_mem him
                    rw [Nat.zero_add] at e1 e2
                    subst e1
                    have hil : m < gs.length := (List.getElem?_eq_some_iff.1 hg).1
                    have hnl : ¬ gs.length ≤ m := by omega
                    have c1 : ¬ (m : Int) < 0 := by omega
                    obtain ⟨v, hv⟩ := get_lt (l := a) (k := m) (by omega)
                    have hge := valid_ge hops hgs hp h3 hg h6
                    have hav := hT m (by omega)
                    have c2 : ¬ v < d := by
                      rw [List.getD_eq_getElem?_getD, hv] at hav
                      simp only [Option.getD_some] at hav
                      omega
                    repeat' (first
                      | (refine sw_seq ?_) | (refine sw_block ?_) | (refine sw_skip ?_) | (refine sw_ret ?_) | (refine sw_exit ?_)
                      | (refine n_then ?_) | (refine r_then ?_) | (refine e_then ?_) | (refine n_block ?_) | (refine r_block ?_) | (refine e_block ?_) | (refine o_block rfl ?_)
                      | (refine sw_run (by simp [-getElem?_pos, List.getElem?_cons_zero, List.getElem?_cons_succ, hy, hjl, hi, c1, hil, hnl, hv, hwj, c2]; exact Is.mk _) ?_)
                      | (refine sw_true (by simp [-getElem?_pos, List.getElem?_cons_zero, List.getElem?_cons_succ, hy, hjl, hi, c1, hil, hnl, hv, hwj, c2]; exact Is.mk _) ?_) | (refine sw_false (by simp [-getElem?_pos, List.getElem?_cons_zero, List.getElem?_cons_succ, hy, hjl, hi, c1, hil, hnl, hv, hwj, c2]; exact Is.mk _) ?_)
                      | (refine sw_yes (by simp; exact Is.mk _) (by assumption) ?_)
                      | (refine sw_no (by simp; exact Is.mk _) (by assumption) ?_)
                      | (refine sw_if (by simp; exact Is.mk _) (fun _ => ?_) (fun _ => ?_)))
                    exact ⟨j + 1, by omega, by omega, weak_cut_hp (by simp) (by simp) (by simp)⟩
                  · obtain rfl : j = y.length := by omega
                    repeat' (first
                      | (refine sw_seq ?_) | (refine sw_block ?_) | (refine sw_skip ?_) | (refine sw_ret ?_) | (refine sw_exit ?_)
                      | (refine n_then ?_) | (refine r_then ?_) | (refine e_then ?_) | (refine n_block ?_) | (refine r_block ?_) | (refine e_block ?_) | (refine o_block rfl ?_)
                      | (refine sw_run (by simp [-getElem?_pos, List.getElem?_cons_zero, List.getElem?_cons_succ, hy, hw]; exact Is.mk _) ?_)
                      | (refine sw_true (by simp [-getElem?_pos, List.getElem?_cons_zero, List.getElem?_cons_succ, hy, hw]; exact Is.mk _) ?_) | (refine sw_false (by simp [-getElem?_pos, List.getElem?_cons_zero, List.getElem?_cons_succ, hy, hw]; exact Is.mk _) ?_)
                      | (refine sw_yes (by simp; exact Is.mk _) (by assumption) ?_)
                      | (refine sw_no (by simp; exact Is.mk _) (by assumption) ?_)
                      | (refine sw_if (by simp; exact Is.mk _) (fun _ => ?_) (fun _ => ?_)))
                    exact ⟨d + 1, by omega, by omega, weak_cut_hp (by simp) (by simp) (by simp)⟩
              · obtain rfl : d = (newS gs).length := by omega
                repeat' (first
                  | (refine sw_seq ?_) | (refine sw_block ?_) | (refine sw_skip ?_) | (refine sw_ret ?_) | (refine sw_exit ?_)
                  | (refine n_then ?_) | (refine r_then ?_) | (refine e_then ?_) | (refine n_block ?_) | (refine r_block ?_) | (refine e_block ?_) | (refine o_block rfl ?_)
                  | (refine sw_run (by simp [-getElem?_pos, List.getElem?_cons_zero, List.getElem?_cons_succ, ]; exact Is.mk _) ?_)
                  | (refine sw_true (by simp [-getElem?_pos, List.getElem?_cons_zero, List.getElem?_cons_succ, ]; exact Is.mk _) ?_) | (refine sw_false (by simp [-getElem?_pos, List.getElem?_cons_zero, List.getElem?_cons_succ, ]; exact Is.mk _) ?_)
                  | (refine sw_yes (by simp; exact Is.mk _) (by assumption) ?_)
                  | (refine sw_no (by simp; exact Is.mk _) (by assumption) ?_)
                  | (refine sw_if (by simp; exact Is.mk _) (fun _ => ?_) (fun _ => ?_)))
                exact end_val (by simp; exact Is.mk _) (by simp [hn0, hn]) ⟨rfl, by simp; omega⟩

end Go.AM
