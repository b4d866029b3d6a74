/- Plain law: the schedule of New is valid. -/
import Derived.Test.YtmljoaiedihoiaaDoorS14
namespace Go.AM
set_option linter.unusedVariables false
set_option linter.unusedSimpArgs false
open Go Go.Proofs

theorem mem_selFrom {dp : List Int} {d : Nat} : ∀ {gs : List Gate} {i j : Nat} {g : Gate}, gs[j]? = some g → g.kind = 6 → dp.getD (i + j) 0 = d → ((i + j : Nat) : Int) ∈ selFrom dp d i gs
  | [], _, _, _, h, _, _ => by simp at h
  | x :: gs, i, 0, g, h, h6, hd => by
    simp at h
    subst h
    rw [Nat.add_zero] at hd
    simp only [selFrom]
    rw [if_pos ⟨h6, hd⟩]
    simp
  | x :: gs, i, j + 1, g, h, h6, hd => by
    have := mem_selFrom (dp := dp) (d := d) (gs := gs) (i := i + 1) (j := j) (g := g) (by simpa using h) h6 (by rwa [show i + 1 + j = i + (j + 1) by omega])
    rw [show i + 1 + j = i + (j + 1) by omega] at this
    simp only [selFrom]
    split
    · exact List.mem_cons_of_mem _ this
    · exact this
theorem selFrom_nodup {dp : List Int} {d : Nat} : ∀ (gs : List Gate) (i : Nat), (selFrom dp d i gs).Nodup
  | [], _ => by simp [selFrom]
  | g :: gs, i => by
    simp only [selFrom]
    split
    · rw [List.nodup_cons]
      refine ⟨fun h => ?_, selFrom_nodup gs (i + 1)⟩
      obtain ⟨j, _, _, _, e, _⟩ := selFrom_mem h
      omega
    · exact selFrom_nodup gs (i + 1)

theorem placeLayer_ok {gs : List Gate} {n : Int} : ∀ (l : List Int) (out : List Int), out.length = gs.length → l.Nodup → (∀ i ∈ l, ∃ (j : Nat) (g : Gate), i = j ∧ gs[j]? = some g ∧ g.kind = 6 ∧ out.getD j 0 = 0) →
    ∃ o, placeLayer gs out n l = some o ∧ o.length = gs.length ∧ ∀ j : Nat, o.getD j 0 = if (j : Int) ∈ l then n + 1 else out.getD j 0
  | [], out, hl, _, _ => ⟨out, rfl, hl, fun j => by simp⟩
  | i :: l, out, hl, hnd, h => by
    rw [List.nodup_cons] at hnd
    obtain ⟨m, g, rfl, hg, h6, h0⟩ := h i (by simp)
    have hm := (List.getElem?_eq_some_iff.1 hg).1
    have hom : out[m]? = some 0 := by
      obtain ⟨v, hv⟩ := get_lt (l := out) (k := m) (by omega)
      rw [List.getD_eq_getElem?_getD, hv] at h0
      rw [hv]; simp at h0; rw [h0]
    have e : placeOne gs out n (m : Int) = some (out.set m (n + 1)) := by
      unfold placeOne
      rw [if_pos ⟨by omega, by omega, by simp only [Int.toNat_natCast, hg, Option.map_some, h6], by simp only [Int.toNat_natCast, hom]⟩, Int.toNat_natCast]
    obtain ⟨o, h1, h2, h3⟩ := placeLayer_ok (gs := gs) (n := n) l (out.set m (n + 1)) (by simpa using hl) hnd.2 fun i hi => by
      obtain ⟨j, g', rfl, hg', h6', h0'⟩ := h i (by simp [hi])
      refine ⟨j, g', rfl, hg', h6', ?_⟩
      rw [getD_set, if_neg]
      · exact h0'
      · rintro ⟨rfl, _⟩; exact hnd.1 hi
    refine ⟨o, by simp only [placeLayer, e, Option.bind_some]; exact h1, h2, fun j => ?_⟩
    rw [h3, getD_set]
    by_cases hj : (j : Int) ∈ l
    · rw [if_pos hj, if_pos (by simp [hj])]
    · rw [if_neg hj]
      by_cases e2 : m = j
      · subst e2; rw [if_pos ⟨rfl, by omega⟩, if_pos (by simp)]
      · rw [if_neg (fun e3 => e2 e3.1), if_neg]
        simp only [List.mem_cons, not_or]
        exact ⟨by omega, hj⟩

section
variable {gs : List Gate} (h : opsOk gs) (hs : Small gs.length)
include h hs
omit h hs in
theorem place_new : ∀ (k d : Nat) (out : List Int), out.length = gs.length → (∀ j g, gs[j]? = some g → out.getD j 0 = if g.kind = 6 ∧ (dep gs).getD j 0 ≤ d then (dep gs).getD j 0 else 0) →
    ∃ o, placeAll gs out d ((List.range k).map fun i => selFrom (dep gs) (d + i + 1) 0 gs) = some o ∧ o.length = gs.length ∧ ∀ j g, gs[j]? = some g → o.getD j 0 = if g.kind = 6 ∧ (dep gs).getD j 0 ≤ (d + k : Nat) then (dep gs).getD j 0 else 0
  | 0, d, out, hl, ho => ⟨out, rfl, hl, ho⟩
  | k + 1, d, out, hl, ho => by
    obtain ⟨o1, p1, p2, p3⟩ := placeLayer_ok (gs := gs) (n := d) (selFrom (dep gs) (d + 1) 0 gs) out hl (selFrom_nodup gs 0) fun i hi => by
      obtain ⟨j, g, hg, h6, e, hd⟩ := selFrom_mem hi
      rw [Nat.zero_add] at e hd
      refine ⟨j, g, e, hg, h6, ?_⟩
      rw [ho j g hg, if_neg]
      omega
    obtain ⟨o, q1, q2, q3⟩ := place_new k (d + 1) o1 p2 fun j g hg => by
      rw [p3]
      by_cases hj : (j : Int) ∈ selFrom (dep gs) (d + 1) 0 gs
      · rw [if_pos hj]
        obtain ⟨j', g', hg', h6, e, hd⟩ := selFrom_mem hj
        rw [Nat.zero_add] at e hd
        obtain rfl : j = j' := by omega
        rw [hg] at hg'
        cases hg'
        rw [if_pos ⟨h6, by omega⟩, hd]; simp
      · rw [if_neg hj, ho j g hg]
        by_cases h6 : g.kind = 6
        · have hne : (dep gs).getD j 0 ≠ ((d + 1 : Nat) : Int) := fun e => hj (by
            have := mem_selFrom (dp := dep gs) (d := d + 1) (i := 0) hg h6 (by rwa [Nat.zero_add])
            rwa [Nat.zero_add] at this)
          by_cases hd : (dep gs).getD j 0 ≤ d
          · rw [if_pos ⟨h6, hd⟩, if_pos ⟨h6, by omega⟩]
          · rw [if_neg (fun e => hd e.2), if_neg (fun e => hd (by have := e.2; omega))]
        · rw [if_neg (fun e => h6 e.1), if_neg (fun e => h6 e.1)]
    refine ⟨o, ?_, q2, fun j g hg => ?_⟩
    · rw [List.range_succ_eq_map]
      simp only [List.map_cons, List.map_map, placeAll]
      rw [show d + 0 + 1 = d + 1 from rfl, p1]
      simp only [Option.bind_some]
      have e : ((fun i => selFrom (dep gs) (d + i + 1) 0 gs) ∘ Nat.succ) = fun i => selFrom (dep gs) (d + 1 + i + 1) 0 gs := by
        funext i; simp only [Function.comp_apply]; rw [show d + i.succ + 1 = d + 1 + i + 1 by omega]
      rw [e]
      rw [Int.natCast_add] at q1
      exact q1
    · rw [q3 j g hg, show d + 1 + k = d + (k + 1) by omega]

theorem valid_new_from {at_ : List Int} (hat : ∀ (j : Nat) (g : Gate), gs[j]? = some g → g.kind = 6 → at_.getD j 0 = (dep gs).getD j 0) : ∀ (rest : List Gate) (i : Nat) (last : List Int), rest = gs.drop i → last.length = gs.length →
    (∀ j, j < i → last.getD j 0 = (dep gs).getD j 0) → last.getD i 0 = 0 → (∀ j, i ≤ j → last.getD j 0 = 0) → validFrom at_ last i rest = true
  | [], _, _, _, _, _, _, _ => rfl
  | g :: rest, i, last, hr, hl, hd, h0, hz => by
    have hg : gs[i]? = some g := by have := congrArg (·[0]?) hr; simp at this; exact this.symm
    have hi := (List.getElem?_eq_some_iff.1 hg).1
    have hr' : rest = gs.drop (i + 1) := by have := congrArg List.tail hr; simpa using this
    have hne : ∀ k ∈ namedL g, k.toNat ≠ i := fun k hk => by have := h i g hg k hk; omega
    have hval := depIn_val (ks := namedL g) (out := last) (i := i) (by omega) hne (by omega)
    have hmx : mxL (fun k => last.getD k.toNat 0) (namedL g) = mxL (fun k => (dep gs).getD k.toNat 0) (namedL g) := mxL_congr fun k hk => by
      have := h i g hg k hk
      exact hd k.toNat (by omega)
    have hde := dep_eq h hs hg
    have hnn := mxL_nonneg (fun k => (dep gs).getD k.toNat 0) (namedL g)
    simp only [validFrom]
    split
    · rename_i h6
      rw [if_pos h6] at hde
      have ha := hat i g hg h6
      rw [if_neg (by omega)]
      refine valid_new_from hat rest (i + 1) _ hr' (by simp [depIn_len, hl]) (fun j hj => ?_) ?_ fun j hj => ?_
      · rw [getD_set, depIn_len]
        split
        · rename_i e; rw [← e.1]; exact ha
        · rename_i e
          have hji : j ≠ i := fun e2 => e ⟨e2.symm, by omega⟩
          rw [depIn_ne hji]; exact hd j (by omega)
      · rw [getD_set, if_neg (by omega), depIn_ne (by omega)]; exact hz _ (by omega)
      · rw [getD_set, if_neg (by omega), depIn_ne (by omega)]; exact hz _ (by omega)
    · rename_i h6
      rw [if_neg h6] at hde
      refine valid_new_from hat rest (i + 1) _ hr' (by simp [depIn_len, hl]) (fun j hj => ?_) ?_ fun j hj => ?_
      · by_cases e : j = i
        · subst e; omega
        · rw [depIn_ne e]; exact hd j (by omega)
      · rw [depIn_ne (by omega)]; exact hz _ (by omega)
      · rw [depIn_ne (by omega)]; exact hz _ (by omega)

theorem new_valid : validS gs (newS gs) = true := by
  obtain ⟨o, h1, h2, h3⟩ := place_new (gs := gs) (mostFrom (dep gs) 0 gs) 0 (List.replicate gs.length 0) (by simp) fun j g hg => by
    rw [zeros_get, if_neg]
    rintro ⟨h6, hd⟩
    have := dep_pos h hs hg h6
    omega
  unfold validS
  rw [newS_eq h hs]
  have e : (fun d => selFrom (dep gs) (d + 1) 0 gs) = fun i => selFrom (dep gs) (0 + i + 1) 0 gs := by funext i; rw [Nat.zero_add]
  have e0 : (((0 : Nat) : Int)) = 0 := rfl
  rw [e0] at h1
  rw [e, h1]
  simp only
  refine valid_new_from h hs (fun j g hg h6 => ?_) gs 0 _ (by simp) (by simp) (fun j hj => by omega) (zeros_get _ _) fun j _ => zeros_get _ j
  rw [h3 j g hg, if_pos]
  refine ⟨h6, ?_⟩
  have := mostFrom_ge (dp := dep gs) (i := 0) hg h6
  rw [Nat.zero_add] at this
  omega
end

end Go.AM
