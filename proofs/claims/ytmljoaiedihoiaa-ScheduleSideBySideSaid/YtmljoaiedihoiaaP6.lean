/- Plain law: two circuits side by side. -/
import Derived.Test.YtmljoaiedihoiaaS14
namespace Go.AM
set_option linter.unusedVariables false
set_option linter.unusedSimpArgs false
open Go Go.Proofs

def shiftG (n : Nat) (g : Gate) : Gate :=
  if g.kind = 3 ∨ g.kind = 4 ∨ g.kind = 6 then { g with a := g.a + n, b := g.b + n } else if g.kind = 5 then { g with a := g.a + n } else g
theorem shift_kind (n : Nat) (g : Gate) : (shiftG n g).kind = g.kind := by unfold shiftG; split; rfl; split <;> rfl
theorem shift_k (n : Nat) (g : Gate) : (shiftG n g).k = g.k := by unfold shiftG; split; rfl; split <;> rfl
theorem shift_named (n : Nat) (g : Gate) : namedL (shiftG n g) = (namedL g).map fun x => x + (n : Int) := by
  unfold namedL
  rw [shift_kind]
  by_cases h : g.kind = 3 ∨ g.kind = 4 ∨ g.kind = 6
  · rw [if_pos h, if_pos h]; unfold shiftG; rw [if_pos h]; rfl
  · rw [if_neg h, if_neg h]
    by_cases h5 : g.kind = 5
    · rw [if_pos h5, if_pos h5]; unfold shiftG; rw [if_neg h, if_pos h5]; rfl
    · rw [if_neg h5, if_neg h5]; rfl

def bothG (gs hs : List Gate) : List Gate := gs ++ hs.map (shiftG gs.length)
theorem both_len (gs hs : List Gate) : (bothG gs hs).length = gs.length + hs.length := by simp [bothG]
theorem both_left {gs hs : List Gate} {i : Nat} (h : i < gs.length) : (bothG gs hs)[i]? = gs[i]? := List.getElem?_append_left h
theorem both_right {gs hs : List Gate} {i : Nat} (h : gs.length ≤ i) : (bothG gs hs)[i]? = (hs[i - gs.length]?).map (shiftG gs.length) := by
  unfold bothG; rw [List.getElem?_append_right h, List.getElem?_map]
theorem both_ops {gs hs : List Gate} (h1 : opsOk gs) (h2 : opsOk hs) : opsOk (bothG gs hs) := by
  intro i g hg k hk
  by_cases h : i < gs.length
  · rw [both_left h] at hg; exact h1 i g hg k hk
  · rw [both_right (by omega), Option.map_eq_some_iff] at hg
    obtain ⟨g', hg', rfl⟩ := hg
    rw [shift_named, List.mem_map] at hk
    obtain ⟨q, hq, rfl⟩ := hk
    have := h2 _ g' hg' q hq
    omega
theorem both_trip (gs hs : List Gate) : trip (bothG gs hs) = trip gs + trip hs := by
  unfold trip cnt bothG
  rw [List.countP_append, List.countP_append, List.countP_map, List.countP_map]
  have e1 : (isBit ∘ shiftG gs.length) = isBit := by funext g; simp [isBit, shift_kind, shift_k]
  have e2 : (isMul ∘ shiftG gs.length) = isMul := by funext g; simp [isMul, shift_kind]
  rw [e1, e2]; omega

section
variable {gs hs : List Gate} (h1 : opsOk gs) (h2 : opsOk hs) (hs1 : Small gs.length) (hs2 : Small hs.length) (hs3 : Small (gs.length + hs.length))
include h1 h2 hs1 hs2 hs3
theorem both_dep : ∀ i, i < gs.length + hs.length → (dep (bothG gs hs)).getD i 0 = if i < gs.length then (dep gs).getD i 0 else (dep hs).getD (i - gs.length) 0 := by
  have := dep_uniq (gs := bothG gs hs) (both_ops h1 h2) (by rw [both_len]; exact hs3) (fun i => if i < gs.length then (dep gs).getD i 0 else (dep hs).getD (i - gs.length) 0) ?_
  · intro i hi; exact this i (by rw [both_len]; exact hi)
  · intro i g hg
    by_cases h : i < gs.length
    · rw [both_left h] at hg
      rw [if_pos h, dep_eq h1 hs1 hg]
      congr 1
      refine mxL_congr fun k hk => ?_
      have := h1 i g hg k hk
      rw [if_pos (by omega)]
    · rw [both_right (by omega), Option.map_eq_some_iff] at hg
      obtain ⟨g', hg', rfl⟩ := hg
      rw [if_neg h, dep_eq h2 hs2 hg', shift_named, mxL_map, shift_kind]
      congr 1
      refine mxL_congr fun k hk => ?_
      have := h2 _ g' hg' k hk
      rw [if_neg (by omega), show (k + (gs.length : Int)).toNat - gs.length = k.toNat by omega]
end

theorem mostFrom_app {dp : List Int} : ∀ (a b : List Gate) (i : Nat), mostFrom dp i (a ++ b) = max (mostFrom dp i a) (mostFrom dp (i + a.length) b)
  | [], b, i => by simp [mostFrom]
  | g :: a, b, i => by
    simp only [List.cons_append, mostFrom]
    rw [mostFrom_app a b (i + 1), show i + 1 + a.length = i + (g :: a).length by simp; omega]
    by_cases h : g.kind = 6
    · simp only [h, true_and]; split <;> split <;> omega
    · simp only [h, false_and, if_false]
theorem selFrom_app {dp : List Int} {d : Nat} : ∀ (a b : List Gate) (i : Nat), selFrom dp d i (a ++ b) = selFrom dp d i a ++ selFrom dp d (i + a.length) b
  | [], b, i => by simp [selFrom]
  | g :: a, b, i => by
    simp only [List.cons_append, selFrom]
    rw [selFrom_app a b (i + 1), show i + 1 + a.length = i + (g :: a).length by simp; omega]
    split <;> simp
theorem mostFrom_cong {dp dq : List Int} {n : Nat} : ∀ (a : List Gate) (i j : Nat), (∀ k, k < a.length → dp.getD (i + k) 0 = dq.getD (j + k) 0) → mostFrom dp i (a.map (shiftG n)) = mostFrom dq j a ∧ mostFrom dp i a = mostFrom dq j a
  | [], _, _, _ => ⟨rfl, rfl⟩
  | g :: a, i, j, h => by
    have h0 := h 0 (by simp)
    rw [Nat.add_zero, Nat.add_zero] at h0
    obtain ⟨h1, h2⟩ := mostFrom_cong (dp := dp) (dq := dq) (n := n) a (i + 1) (j + 1) fun k hk => by
      have := h (k + 1) (by simp; omega)
      rwa [show i + (k + 1) = i + 1 + k by omega, show j + (k + 1) = j + 1 + k by omega] at this
    simp only [List.map_cons, mostFrom, shift_kind, h0, h1, h2, and_self]
theorem selFrom_cong {dp dq : List Int} {d n : Nat} : ∀ (a : List Gate) (i j : Nat), i = j + n → (∀ k, k < a.length → dp.getD (i + k) 0 = dq.getD (j + k) 0) → selFrom dp d i (a.map (shiftG n)) = (selFrom dq d j a).map fun x => x + (n : Int)
  | [], _, _, _, _ => rfl
  | g :: a, i, j, e, h => by
    have h0 := h 0 (by simp)
    rw [Nat.add_zero, Nat.add_zero] at h0
    have h1 := selFrom_cong (dp := dp) (dq := dq) (d := d) (n := n) a (i + 1) (j + 1) (by omega) fun k hk => by
      have := h (k + 1) (by simp; omega)
      rwa [show i + (k + 1) = i + 1 + k by omega, show j + (k + 1) = j + 1 + k by omega] at this
    simp only [List.map_cons, selFrom, shift_kind, h0, h1]
    split
    · simp [e]
    · rfl
theorem selFrom_same {dp dq : List Int} {d : Nat} : ∀ (a : List Gate) (i : Nat), (∀ k, k < a.length → dp.getD (i + k) 0 = dq.getD (i + k) 0) → selFrom dp d i a = selFrom dq d i a
  | [], _, _ => rfl
  | g :: a, i, h => by
    have h0 := h 0 (by simp)
    rw [Nat.add_zero] at h0
    have h1 := selFrom_same (dp := dp) (dq := dq) (d := d) a (i + 1) fun k hk => by
      have := h (k + 1) (by simp; omega)
      rwa [show i + (k + 1) = i + 1 + k by omega] at this
    simp only [selFrom, h0, h1]
theorem selFrom_none {dp : List Int} {d : Nat} : ∀ (a : List Gate) (i : Nat), (mostFrom dp i a) < d → selFrom dp d i a = []
  | [], _, _ => rfl
  | g :: a, i, h => by
    simp only [mostFrom] at h
    have h1 : mostFrom dp (i + 1) a < d := by split at h <;> omega
    simp only [selFrom]
    rw [selFrom_none a (i + 1) h1, if_neg]
    rintro ⟨h6, e⟩
    rw [e] at h
    simp only [h6, true_and, Int.toNat_natCast] at h
    split at h <;> omega

def wantS (a b : List (List Int)) (n : Nat) : List (List Int) := (List.range (max a.length b.length)).map fun k => a.getD k [] ++ (b.getD k []).map fun x => x + (n : Int)

theorem newS_getD {gs : List Gate} (h : opsOk gs) (hs : Small gs.length) (d : Nat) : (newS gs).getD d [] = selFrom (dep gs) (d + 1) 0 gs := by
  rw [newS_eq h hs, List.getD_eq_getElem?_getD, List.getElem?_map]
  by_cases c : d < mostFrom (dep gs) 0 gs
  · rw [List.getElem?_range c]; rfl
  · rw [List.getElem?_eq_none (by simp; omega)]
    exact (selFrom_none gs 0 (by omega)).symm

theorem new_both {gs hs : List Gate} (h1 : opsOk gs) (h2 : opsOk hs) (hs1 : Small gs.length) (hs2 : Small hs.length) (hs3 : Small (gs.length + hs.length)) : newS (bothG gs hs) = wantS (newS gs) (newS hs) gs.length := by
  have hd := both_dep h1 h2 hs1 hs2 hs3
  have e1 : ∀ k, k < gs.length → (dep (bothG gs hs)).getD (0 + k) 0 = (dep gs).getD (0 + k) 0 := fun k hk => by
    rw [hd (0 + k) (by omega), if_pos (by omega)]
  have e2 : ∀ k, k < hs.length → (dep (bothG gs hs)).getD (gs.length + k) 0 = (dep hs).getD (0 + k) 0 := fun k hk => by
    rw [hd (gs.length + k) (by omega), if_neg (by omega), show gs.length + k - gs.length = 0 + k by omega]
  have hm : mostFrom (dep (bothG gs hs)) 0 (bothG gs hs) = max (newS gs).length (newS hs).length := by
    conv => lhs; arg 3; unfold bothG
    rw [mostFrom_app, Nat.zero_add, (mostFrom_cong (n := 0) gs 0 0 e1).2, (mostFrom_cong (n := gs.length) hs gs.length 0 e2).1, newS_eq h1 hs1, newS_eq h2 hs2]
    simp
  rw [newS_eq (both_ops h1 h2) (by rw [both_len]; exact hs3), hm]
  unfold wantS
  refine List.map_congr_left fun d _ => ?_
  conv => lhs; arg 4; unfold bothG
  rw [selFrom_app, Nat.zero_add, selFrom_same gs 0 e1, selFrom_cong hs gs.length 0 (by omega) e2, newS_getD h1 hs1, newS_getD h2 hs2]

end Go.AM
