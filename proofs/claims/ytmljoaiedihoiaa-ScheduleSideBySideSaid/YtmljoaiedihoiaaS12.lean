/- Depths of valid circuits. -/
import Derived.Test.YtmljoaiedihoiaaS11
namespace Go.AM
set_option linter.unusedVariables false
set_option linter.unusedSimpArgs false
open Go Go.RowKit Go.Proofs

theorem getD_set (l : List Int) (i j : Nat) (v : Int) : (l.set i v).getD j 0 = if i = j ∧ i < l.length then v else l.getD j 0 := by
  rw [List.getD_eq_getElem?_getD, List.getD_eq_getElem?_getD, List.getElem?_set]
  by_cases h : i = j
  · subst h
    by_cases h2 : i < l.length
    · simp [h2]
    · simp [h2]
  · simp [h]

theorem depIn_len {i : Nat} : ∀ {ks : List Int} {out : List Int}, (depIn out i ks).length = out.length
  | [], _ => rfl
  | k :: ks, out => by simp only [depIn]; rw [depIn_len]; simp
theorem depIn_ne {i j : Nat} (h : j ≠ i) : ∀ {ks : List Int} {out : List Int}, (depIn out i ks).getD j 0 = out.getD j 0
  | [], _ => rfl
  | k :: ks, out => by simp only [depIn]; rw [depIn_ne h, getD_set, if_neg (by omega)]
theorem depIn_bd {i : Nat} {B : Int} : ∀ {ks : List Int} {out : List Int}, i < out.length → (∀ k ∈ ks, k.toNat ≠ i ∧ out.getD k.toNat 0 ≤ B) → 0 ≤ out.getD i 0 → out.getD i 0 ≤ B → 0 ≤ (depIn out i ks).getD i 0 ∧ (depIn out i ks).getD i 0 ≤ B
  | [], _, _, _, h1, h2 => ⟨h1, h2⟩
  | k :: ks, out, hi, hk, h1, h2 => by
    simp only [depIn]
    have hk0 := hk k (by simp)
    refine depIn_bd (by simpa using hi) (fun q hq => ⟨(hk q (by simp [hq])).1, ?_⟩) ?_ ?_
    · rw [getD_set, if_neg (fun e => (hk q (by simp [hq])).1 e.1.symm)]
      exact (hk q (by simp [hq])).2
    · rw [getD_set, if_pos ⟨rfl, hi⟩]; split <;> omega
    · rw [getD_set, if_pos ⟨rfl, hi⟩]; split <;> omega

theorem depGate_len (out : List Int) (i : Nat) (g : Gate) : (depGate out i g).length = out.length := by
  unfold depGate; simp only; split <;> simp [depIn_len]
theorem depGate_ne {out : List Int} {i j : Nat} {g : Gate} (h : j ≠ i) : (depGate out i g).getD j 0 = out.getD j 0 := by
  unfold depGate; simp only; split
  · rw [getD_set, if_neg (by omega), depIn_ne h]
  · exact depIn_ne h

theorem depFrom_ok : ∀ (gs : List Gate) (i : Nat) (out : List Int), out.length = i + gs.length → (∀ j, j < i → 0 ≤ out.getD j 0 ∧ out.getD j 0 ≤ (j : Int) + 1) → out.getD i 0 = 0 → (∀ j, i ≤ j → out.getD j 0 = 0) →
    (∀ (j : Nat) (g : Gate), gs[j]? = some g → ∀ k ∈ namedL g, 0 ≤ k ∧ k < ((i + j : Nat) : Int)) → i + gs.length < 4294967296 →
    (depFrom out i gs).length = out.length ∧ (∀ j, j < i → (depFrom out i gs).getD j 0 = out.getD j 0) ∧ (∀ j, j < i + gs.length → 0 ≤ (depFrom out i gs).getD j 0 ∧ (depFrom out i gs).getD j 0 ≤ (j : Int) + 1) ∧
      ∀ (j : Nat) (g : Gate), gs[j]? = some g → g.kind = 6 → 1 ≤ (depFrom out i gs).getD (i + j) 0
  | [], i, out, _, hb, _, _, _, _ => ⟨rfl, fun _ _ => rfl, by simpa [depFrom] using hb, fun j g h => by simp at h⟩
  | g :: gs, i, out, hl, hb, h0, hz, hv, hs => by
    simp only [List.length_cons] at hl hs
    have hi : i < out.length := by omega
    have hin : 0 ≤ (depIn out i (namedL g)).getD i 0 ∧ (depIn out i (namedL g)).getD i 0 ≤ (i : Int) := by
      refine depIn_bd hi (fun k hk => ?_) (by omega) (by omega)
      have := hv 0 g rfl k hk
      have hki : k.toNat < i := by omega
      have := (hb k.toNat hki).2
      exact ⟨by omega, by omega⟩
    have hgi : 0 ≤ (depGate out i g).getD i 0 ∧ (depGate out i g).getD i 0 ≤ (i : Int) + 1 ∧ (g.kind = 6 → 1 ≤ (depGate out i g).getD i 0) := by
      unfold depGate
      simp only
      split
      · rw [getD_set, if_pos ⟨rfl, by rw [depIn_len]; exact hi⟩, i64_in (by omega)]
        exact ⟨by omega, by omega, fun _ => by omega⟩
      · rename_i h6
        exact ⟨hin.1, by omega, fun h => absurd h h6⟩
    obtain ⟨r1, r2, r3, r4⟩ := depFrom_ok gs (i + 1) (depGate out i g) (by rw [depGate_len]; omega)
      (fun j hj => by
        by_cases e : j = i
        · subst e; exact ⟨hgi.1, hgi.2.1⟩
        · rw [depGate_ne e]; exact hb j (by omega))
      (by rw [depGate_ne (by omega)]; exact hz _ (by omega)) (fun j hj => by rw [depGate_ne (by omega)]; exact hz j (by omega))
      (fun j g' hg' k hk => by have := hv (j + 1) g' (by simpa using hg') k hk; rwa [show i + (j + 1) = i + 1 + j by omega] at this) (by omega)
    simp only [depFrom]
    refine ⟨by rw [r1, depGate_len], fun j hj => by rw [r2 j (by omega), depGate_ne (by omega)], fun j hj => r3 j (by simp only [List.length_cons] at hj; omega), fun j g' hg' h6 => ?_⟩
    cases j with
    | zero =>
      simp at hg'
      subst hg'
      show 1 ≤ (depFrom (depGate out i g) (i + 1) gs).getD i 0
      rw [r2 i (by omega)]
      exact hgi.2.2 h6
    | succ j =>
      have := r4 j g' (by simpa using hg') h6
      rwa [show i + 1 + j = i + (j + 1) by omega] at this

theorem depsOk_of {gs : List Gate} (h : opsOk gs) (hs : Small gs.length) : depsOk gs := by
  have hz : ∀ j, (List.replicate gs.length (0 : Int)).getD j 0 = 0 := fun j => by
    rw [List.getD_eq_getElem?_getD, List.getElem?_replicate]; split <;> rfl
  obtain ⟨r1, _, r3, r4⟩ := depFrom_ok gs 0 (List.replicate gs.length 0) (by simp) (fun j hj => by omega) (hz 0) (fun j _ => hz j) (fun j g hg k hk => by rw [Nat.zero_add]; exact h j g hg k hk) (by have := hs.lt; omega)
  refine ⟨by unfold dep; rw [r1]; simp, fun i g hg h6 => ?_⟩
  have hi := (List.getElem?_eq_some_iff.1 hg).1
  have b1 := r4 i g hg h6
  have b2 := (r3 i (by omega)).2
  rw [Nat.zero_add] at b1
  obtain ⟨v, hv⟩ := get_lt (l := dep gs) (k := i) (by unfold dep; rw [r1]; simpa using hi)
  have e : (depFrom (List.replicate gs.length 0) 0 gs).getD i 0 = v := by
    show (dep gs).getD i 0 = v
    rw [List.getD_eq_getElem?_getD, hv]; rfl
  rw [e] at b1 b2
  exact ⟨v.toNat, by rw [hv]; congr 1; omega, by omega, by omega⟩

end Go.AM
