/- The depths as equations; the layers of New as selections. -/
import Derived.Test.YtmljoaiedihoiaaS12
namespace Go.AM
set_option linter.unusedVariables false
set_option linter.unusedSimpArgs false
open Go Go.Proofs

/-- The greatest value of a list's members, at least 0. -/
def mxL (f : Int → Int) : List Int → Int
  | [] => 0
  | k :: ks => max (f k) (mxL f ks)
theorem mxL_nonneg (f : Int → Int) : ∀ ks, 0 ≤ mxL f ks
  | [] => by simp [mxL]
  | k :: ks => by have := mxL_nonneg f ks; simp only [mxL]; omega
theorem mxL_congr {f h : Int → Int} : ∀ {ks : List Int}, (∀ k ∈ ks, f k = h k) → mxL f ks = mxL h ks
  | [], _ => rfl
  | k :: ks, e => by simp only [mxL]; rw [e k (by simp), mxL_congr fun q hq => e q (by simp [hq])]
theorem mxL_le {f : Int → Int} {B : Int} : ∀ {ks : List Int}, 0 ≤ B → (∀ k ∈ ks, f k ≤ B) → mxL f ks ≤ B
  | [], h, _ => by simpa [mxL] using h
  | k :: ks, h, e => by have := e k (by simp); have := mxL_le (ks := ks) h fun q hq => e q (by simp [hq]); simp only [mxL]; omega
theorem mxL_ge {f : Int → Int} : ∀ {ks : List Int} {k : Int}, k ∈ ks → f k ≤ mxL f ks
  | [], _, h => by simp at h
  | q :: ks, k, h => by
    simp only [List.mem_cons] at h
    simp only [mxL]
    rcases h with rfl | h
    · omega
    · have := mxL_ge (f := f) h; omega
theorem mxL_le2 {f h : Int → Int} {ks : List Int} (e : ∀ k ∈ ks, f k ≤ h k) : mxL f ks ≤ mxL h ks :=
  mxL_le (mxL_nonneg _ _) fun k hk => Int.le_trans (e k hk) (mxL_ge hk)
theorem mxL_map (f : Int → Int) (m : Int → Int) : ∀ ks, mxL f (ks.map m) = mxL (fun k => f (m k)) ks
  | [] => rfl
  | k :: ks => by simp only [List.map_cons, mxL]; rw [mxL_map f m ks]

theorem depIn_val {i : Nat} : ∀ {ks : List Int} {out : List Int}, i < out.length → (∀ k ∈ ks, k.toNat ≠ i) → 0 ≤ out.getD i 0 →
    (depIn out i ks).getD i 0 = max (out.getD i 0) (mxL (fun k => out.getD k.toNat 0) ks)
  | [], out, _, _, h => by simp only [depIn, mxL]; omega
  | k :: ks, out, hi, hk, h => by
    simp only [depIn]
    rw [depIn_val (ks := ks) (by simpa using hi) (fun q hq => hk q (by simp [hq])) (by rw [getD_set, if_pos ⟨rfl, hi⟩]; split <;> omega), getD_set, if_pos (And.intro rfl hi)]
    have e : mxL (fun q => (out.set i (if out.getD k.toNat 0 > out.getD i 0 then out.getD k.toNat 0 else out.getD i 0)).getD q.toNat 0) ks = mxL (fun q => out.getD q.toNat 0) ks :=
      mxL_congr fun q hq => by rw [getD_set, if_neg fun e => hk q (by simp [hq]) e.1.symm]
    rw [e]
    have h0 := mxL_nonneg (fun q => out.getD q.toNat 0) ks
    simp only [mxL]
    generalize mxL (fun q => out.getD q.toNat 0) ks = M at *
    generalize out.getD k.toNat 0 = K at *
    generalize out.getD i 0 = I at *
    (repeat' split) <;> omega

theorem depFrom_eq : ∀ (gs : List Gate) (i : Nat) (out : List Int), out.length = i + gs.length → (∀ j, j < i → 0 ≤ out.getD j 0 ∧ out.getD j 0 ≤ (j : Int) + 1) → (∀ j, i ≤ j → out.getD j 0 = 0) →
    (∀ (j : Nat) (g : Gate), gs[j]? = some g → ∀ k ∈ namedL g, 0 ≤ k ∧ k < ((i + j : Nat) : Int)) → i + gs.length < 4294967296 →
    ∀ (j : Nat) (g : Gate), gs[j]? = some g → (depFrom out i gs).getD (i + j) 0 = mxL (fun k => (depFrom out i gs).getD k.toNat 0) (namedL g) + if g.kind = 6 then 1 else 0
  | [], i, out, _, _, _, _, _, j, g, h => by simp at h
  | g :: gs, i, out, hl, hb, hz, hv, hs, j, g', hg' => by
    simp only [List.length_cons] at hl hs
    have hi : i < out.length := by omega
    have h0 := hz i (Nat.le_refl _)
    have hne : ∀ k ∈ namedL g, k.toNat ≠ i := fun k hk => by have := hv 0 g rfl k hk; omega
    have hval := depIn_val (ks := namedL g) hi hne (by omega)
    have hbd : mxL (fun k => out.getD k.toNat 0) (namedL g) ≤ i := mxL_le (by omega) fun k hk => by
      have := hv 0 g rfl k hk
      have := (hb k.toNat (by omega)).2
      omega
    have hnn := mxL_nonneg (fun k => out.getD k.toNat 0) (namedL g)
    have hin : (depIn out i (namedL g)).getD i 0 = mxL (fun k => out.getD k.toNat 0) (namedL g) := by rw [hval, h0]; omega
    have hgv : (depGate out i g).getD i 0 = mxL (fun k => out.getD k.toNat 0) (namedL g) + if g.kind = 6 then 1 else 0 := by
      unfold depGate
      simp only
      split
      · rw [getD_set, if_pos ⟨rfl, by rw [depIn_len]; exact hi⟩, hin, i64_in (by omega)]
      · rw [hin]; omega
    have hb' : ∀ j, j < i + 1 → 0 ≤ (depGate out i g).getD j 0 ∧ (depGate out i g).getD j 0 ≤ (j : Int) + 1 := fun j hj => by
      by_cases e : j = i
      · subst e; rw [hgv]; split <;> omega
      · rw [depGate_ne e]; exact hb j (by omega)
    have hz' : ∀ j, i + 1 ≤ j → (depGate out i g).getD j 0 = 0 := fun j hj => by rw [depGate_ne (by omega)]; exact hz j (by omega)
    have hv' : ∀ (j : Nat) (g' : Gate), gs[j]? = some g' → ∀ k ∈ namedL g', 0 ≤ k ∧ k < ((i + 1 + j : Nat) : Int) := fun j g' hg' k hk => by have := hv (j + 1) g' (by simpa using hg') k hk; rwa [show i + (j + 1) = i + 1 + j by omega] at this
    obtain ⟨_, r2, _, _⟩ := depFrom_ok gs (i + 1) (depGate out i g) (by rw [depGate_len]; omega) hb' (hz' _ (Nat.le_refl _)) hz' hv' (by omega)
    simp only [depFrom]
    cases j with
    | zero =>
      simp at hg'
      subst hg'
      rw [show i + 0 = i from rfl, r2 i (by omega), hgv]
      congr 1
      refine mxL_congr fun k hk => ?_
      have := hv 0 g rfl k hk
      rw [r2 k.toNat (by omega), depGate_ne (by omega)]
    | succ j =>
      have := depFrom_eq gs (i + 1) (depGate out i g) (by rw [depGate_len]; omega) hb' hz' hv' (by omega) j g' (by simpa using hg')
      rwa [show i + 1 + j = i + (j + 1) by omega] at this

theorem zeros_get (n j : Nat) : (List.replicate n (0 : Int)).getD j 0 = 0 := by
  rw [List.getD_eq_getElem?_getD, List.getElem?_replicate]; split <;> rfl

section
variable {gs : List Gate} (h : opsOk gs) (hs : Small gs.length)
include h hs
theorem dep_eq {i : Nat} {g : Gate} (hg : gs[i]? = some g) : (dep gs).getD i 0 = mxL (fun k => (dep gs).getD k.toNat 0) (namedL g) + if g.kind = 6 then 1 else 0 := by
  have := depFrom_eq gs 0 (List.replicate gs.length 0) (by simp) (fun j hj => by omega) (fun j _ => zeros_get _ j) (fun j g hg k hk => by rw [Nat.zero_add]; exact h j g hg k hk) (by have := hs.lt; omega) i g hg
  rwa [Nat.zero_add] at this
theorem dep_bd {i : Nat} (hi : i < gs.length) : 0 ≤ (dep gs).getD i 0 ∧ (dep gs).getD i 0 ≤ (i : Int) + 1 := by
  obtain ⟨_, _, r3, _⟩ := depFrom_ok gs 0 (List.replicate gs.length 0) (by simp) (fun j hj => by omega) (zeros_get _ 0) (fun j _ => zeros_get _ j) (fun j g hg k hk => by rw [Nat.zero_add]; exact h j g hg k hk) (by have := hs.lt; omega)
  exact r3 i (by omega)
theorem dep_uniq (f : Nat → Int) (hf : ∀ (i : Nat) (g : Gate), gs[i]? = some g → f i = mxL (fun k => f k.toNat) (namedL g) + if g.kind = 6 then 1 else 0) : ∀ i, i < gs.length → (dep gs).getD i 0 = f i := by
  intro i
  induction i using Nat.strongRecOn with
  | ind i ih =>
    intro hi
    obtain ⟨g, hg⟩ := get_lt hi
    rw [dep_eq h hs hg, hf i g hg]
    congr 1
    refine mxL_congr fun k hk => ?_
    have := h i g hg k hk
    exact ih k.toNat (by omega) (by omega)
theorem dep_len : (dep gs).length = gs.length := (depsOk_of h hs).1
end

/-! ### The layers -/

def selFrom (dp : List Int) (d : Nat) (i : Nat) : List Gate → List Int
  | [] => []
  | g :: gs => if g.kind = 6 ∧ dp.getD i 0 = (d : Int) then (i : Int) :: selFrom dp d (i + 1) gs else selFrom dp d (i + 1) gs
def mostFrom (dp : List Int) (i : Nat) : List Gate → Nat
  | [] => 0
  | g :: gs => if g.kind = 6 ∧ (dp.getD i 0).toNat > mostFrom dp (i + 1) gs then (dp.getD i 0).toNat else mostFrom dp (i + 1) gs

theorem mostFrom_ge {dp : List Int} : ∀ {gs : List Gate} {i j : Nat} {g : Gate}, gs[j]? = some g → g.kind = 6 → (dp.getD (i + j) 0).toNat ≤ mostFrom dp i gs
  | [], _, _, _, h, _ => by simp at h
  | x :: gs, i, 0, g, h, h6 => by
    simp at h
    subst h
    simp only [mostFrom, Nat.add_zero]
    split
    · omega
    · rename_i hc
      by_cases e : (dp.getD i 0).toNat > mostFrom dp (i + 1) gs
      · exact absurd ⟨h6, e⟩ hc
      · omega
  | x :: gs, i, j + 1, g, h, h6 => by
    have := mostFrom_ge (dp := dp) (gs := gs) (i := i + 1) (j := j) (g := g) (by simpa using h) h6
    rw [show i + 1 + j = i + (j + 1) by omega] at this
    simp only [mostFrom]
    split <;> omega
theorem mostFrom_le {dp : List Int} {m : Nat} : ∀ {gs : List Gate} {i : Nat}, (∀ (j : Nat) (g : Gate), gs[j]? = some g → g.kind = 6 → (dp.getD (i + j) 0).toNat ≤ m) → mostFrom dp i gs ≤ m
  | [], _, _ => by simp [mostFrom]
  | x :: gs, i, h => by
    have h1 := mostFrom_le (m := m) (gs := gs) (i := i + 1) fun j g hg h6 => by have := h (j + 1) g (by simpa using hg) h6; rwa [show i + (j + 1) = i + 1 + j by omega] at this
    simp only [mostFrom]
    split
    · rename_i hc
      have := h 0 x rfl hc.1
      simpa using this
    · exact h1

theorem getD_app {α : Type} (a b : List α) (j : Nat) (d : α) : (a ++ b).getD j d = if j < a.length then a.getD j d else b.getD (j - a.length) d := by
  rw [List.getD_eq_getElem?_getD]
  by_cases h : j < a.length
  · rw [if_pos h, List.getElem?_append_left h, ← List.getD_eq_getElem?_getD]
  · rw [if_neg h, List.getElem?_append_right (by omega), ← List.getD_eq_getElem?_getD]
theorem getD_setL {α : Type} (l : List α) (i j : Nat) (v d : α) : (l.set i v).getD j d = if i = j ∧ i < l.length then v else l.getD j d := by
  rw [List.getD_eq_getElem?_getD, List.getD_eq_getElem?_getD, List.getElem?_set]
  by_cases h : i = j
  · subst h
    by_cases h2 : i < l.length
    · simp [h2]
    · simp [h2]
  · simp [h]
theorem grow_getD (ls : List (List Int)) (v d : Nat) : (grow ls v).getD d [] = ls.getD d [] := by
  unfold grow
  rw [getD_app]
  split
  · rfl
  · rw [List.getD_eq_getElem?_getD, List.getElem?_replicate, List.getD_eq_getElem?_getD, List.getElem?_eq_none (by omega)]
    split <;> rfl

theorem lays_ext {a : List (List Int)} {n : Nat} {f : Nat → List Int} (hn : a.length = n) (h : ∀ d, d < n → a.getD d [] = f d) : a = (List.range n).map f := by
  apply List.ext_getElem?
  intro d
  by_cases hd : d < n
  · have := h d hd
    rw [List.getD_eq_getElem?_getD, List.getElem?_eq_getElem (by omega)] at this
    rw [List.getElem?_eq_getElem (by omega)]
    simp only [Option.getD_some] at this
    rw [this]
    simp [hd]
  · rw [List.getElem?_eq_none (by omega), List.getElem?_eq_none (by simp; omega)]

theorem newFrom_eq {dp : List Int} : ∀ {gs : List Gate} {ls : List (List Int)} {i : Nat}, (∀ (j : Nat) (g : Gate), gs[j]? = some g → g.kind = 6 → 1 ≤ dp.getD (i + j) 0) →
    newFrom dp ls i gs = (List.range (max ls.length (mostFrom dp i gs))).map fun d => ls.getD d [] ++ selFrom dp (d + 1) i gs
  | [], ls, i, _ => by
    simp only [newFrom, mostFrom, selFrom, List.append_nil]
    exact lays_ext (by omega) fun d _ => rfl
  | g :: gs, ls, i, h => by
    have ih := fun ls => newFrom_eq (dp := dp) (gs := gs) (ls := ls) (i := i + 1) fun j g hg h6 => by have := h (j + 1) g (by simpa using hg) h6; rwa [show i + (j + 1) = i + 1 + j by omega] at this
    simp only [newFrom, mostFrom, selFrom]
    by_cases h6 : g.kind = 6
    · have h1 := h 0 g rfl h6
      rw [Nat.add_zero] at h1
      rw [if_pos h6, ih]
      have hlen : (bump (grow ls (dp.getD i 0).toNat) ((dp.getD i 0).toNat - 1) i).length = max ls.length (dp.getD i 0).toNat := by simp [bump, grow_length]
      rw [hlen]
      have hm : max (max ls.length (dp.getD i 0).toNat) (mostFrom dp (i + 1) gs) = max ls.length (if g.kind = 6 ∧ (dp.getD i 0).toNat > mostFrom dp (i + 1) gs then (dp.getD i 0).toNat else mostFrom dp (i + 1) gs) := by
        simp only [h6, true_and]; split <;> omega
      rw [← hm]
      refine List.map_congr_left fun d hd => ?_
      unfold bump
      rw [getD_setL, grow_length, grow_getD, grow_getD]
      by_cases hd : (dp.getD i 0).toNat - 1 = d
      · subst hd
        rw [if_pos ⟨rfl, by omega⟩, if_pos ⟨h6, by omega⟩]
        simp
      · rw [if_neg (fun e => hd e.1), if_neg (fun e => hd (by omega))]
    · rw [if_neg h6, ih, if_neg (fun e => h6 e.1)]
      refine List.map_congr_left fun d hd => ?_
      rw [if_neg (fun e => h6 e.1)]

section
variable {gs : List Gate} (h : opsOk gs) (hs : Small gs.length)
include h hs
theorem dep_pos {i : Nat} {g : Gate} (hg : gs[i]? = some g) (h6 : g.kind = 6) : 1 ≤ (dep gs).getD i 0 := by
  have := mxL_nonneg (fun k => (dep gs).getD k.toNat 0) (namedL g)
  rw [dep_eq h hs hg, if_pos h6]; omega
theorem newS_eq : newS gs = (List.range (mostFrom (dep gs) 0 gs)).map fun d => selFrom (dep gs) (d + 1) 0 gs := by
  unfold newS
  rw [newFrom_eq fun j g hg h6 => by rw [Nat.zero_add]; exact dep_pos h hs hg h6]
  simp
theorem dep_le_most : ∀ i, i < gs.length → (dep gs).getD i 0 ≤ mostFrom (dep gs) 0 gs := by
  intro i
  induction i using Nat.strongRecOn with
  | ind i ih =>
    intro hi
    obtain ⟨g, hg⟩ := get_lt hi
    by_cases h6 : g.kind = 6
    · have := mostFrom_ge (dp := dep gs) (i := 0) hg h6
      rw [Nat.zero_add] at this
      omega
    · rw [dep_eq h hs hg, if_neg h6, Int.add_zero]
      refine mxL_le (by omega) fun k hk => ?_
      have := h i g hg k hk
      exact ih k.toNat (by omega) (by omega)
end

theorem selFrom_mem {dp : List Int} {d : Nat} : ∀ {gs : List Gate} {i : Nat} {x : Int}, x ∈ selFrom dp d i gs → ∃ (j : Nat) (g : Gate), gs[j]? = some g ∧ g.kind = 6 ∧ x = ((i + j : Nat) : Int) ∧ dp.getD (i + j) 0 = d
  | [], _, _, h => by simp [selFrom] at h
  | g :: gs, i, x, h => by
    simp only [selFrom] at h
    have key : x ∈ selFrom dp d (i + 1) gs → ∃ (j : Nat) (g' : Gate), (g :: gs)[j]? = some g' ∧ g'.kind = 6 ∧ x = ((i + j : Nat) : Int) ∧ dp.getD (i + j) 0 = d := by
      intro h
      obtain ⟨j, g', h1, h2, h3, h4⟩ := selFrom_mem h
      exact ⟨j + 1, g', by simpa using h1, h2, by rw [h3]; congr 1; omega, by rwa [show i + (j + 1) = i + 1 + j by omega]⟩
    split at h
    · rename_i hc
      simp only [List.mem_cons] at h
      rcases h with rfl | h
      · exact ⟨0, g, rfl, hc.1, rfl, hc.2⟩
      · exact key h
    · exact key h

end Go.AM
