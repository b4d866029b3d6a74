/- Nil slices as empty lists; where ways meet. -/
import Derived.Test.YtmljoaiedihoiaaDoorAm28
namespace Go.AM
set_option linter.unusedVariables false
set_option linter.unusedSimpArgs false
open Go Go.RowKit
set_option linter.unusedSectionVars false
variable [Glob]

def nilS (x y : AV) : Prop := x = .p (.v (.slice none 0 0)) ∧ ∃ sz, y = .p (.sl sz [])
@[simp] theorem nilS_nil {y : AV} : nilS (.p (.v (.slice none 0 0))) y = ∃ sz, y = .p (.sl sz []) := by
  apply propext; unfold nilS; simp

theorem weak_nils {h0 h h' : AHeap} {xs ys : List AV} (hx : convL (fun i => h i ≠ none) nilS xs ys) (hb : ∀ i k', h' i = some k' → ∃ k, h i = some k ∧ (k' = k ∨ convB (fun i => h i ≠ none) nilS k k')) (hd : ∀ i, h i ≠ none → h' i ≠ none) : WeakL h0 xs h ys h' := by
  intro G0 G w vs _ hle hr hrel
  have hA : ∀ x y u, nilS x y → Rel G x u → Rel G y u := by
    rintro x y u ⟨rfl, sz, rfl⟩ r
    exact nil_rel r
  have hm : ∀ b o v, G.M b o = some v → G.M b o = some v := fun _ _ _ h => h
  have hl : ∀ i ver x, h i ≠ none → G.loc i ver = some x → G.loc i ver = some x := fun _ _ _ _ h => h
  refine ⟨G, hle, ?_, convL_rel hm hl hA hx hrel⟩
  have key : ∀ i k', h' i = some k' → ∃ k, h i = some k ∧ (BRel G w i k' ∧ cbOf G i k' = cbOf G i k) ∧ k'.ver = k.ver := by
    intro i k' hk'
    obtain ⟨k, h1, h2⟩ := hb i k' hk'
    refine ⟨k, h1, ?_, by rcases h2 with rfl | h2; rfl; exact convB_ver h2⟩
    rcases h2 with rfl | h2
    · exact ⟨hr.blk i k' h1, rfl⟩
    · exact convB_brel hm hl hA rfl (by simp [h1]) h2 (fun _ _ _ => rfl) (hr.blk i k h1)
  refine ⟨hr.below, hr.imm, fun i k' hk' => by obtain ⟨k, _, ⟨h2, _⟩, _⟩ := key i k' hk'; exact h2, ?_, fun i ver x hx => hd i (hr.dom i ver x hx), fun i k' v hk' hv => ?_, hr.glb⟩
  · intro i j k l b hij hi hj h1
    obtain ⟨k1, a1, ⟨_, c1⟩, _⟩ := key i k hi
    obtain ⟨l1, a2, ⟨_, c2⟩, _⟩ := key j l hj
    rw [c1] at h1
    rw [c2]
    exact hr.sep i j k1 l1 b hij a1 a2 h1
  · obtain ⟨k, h1, _, h3⟩ := key i k' hk'
    exact hr.top i k v h1 (by omega)

theorem weak_nils_hp {N : Nat} {F : AHeap} {L L' : List (Nat × Blk)} {t t' : Slots} (ht : convT (fun i => hp F L i ≠ none) nilS t t')
    (hb : ∀ p ∈ L', ∃ k, hp F L p.1 = some k ∧ (p.2 = k ∨ convB (fun i => hp F L i ≠ none) nilS k p.2)) (hL : ∀ p ∈ L, p.1 ∈ L'.map (·.1)) : Weak N F t (hp F L) t' (hp F L') := by
  refine weak_of_list (weak_nils (convT_list ht) ?_ ?_)
  · intro i k' hk'
    rcases hp_mem hk' with ⟨p, hp', rfl, rfl⟩ | ⟨h1, h2⟩
    · exact hb p hp'
    · refine ⟨k', ?_, .inl rfl⟩
      rw [hp_ne fun p hp' e => ?_]
      · exact h1
      · subst e
        obtain ⟨q, hq, e⟩ := List.mem_map.1 (hL p hp')
        exact h2 q hq e
  · intro i hi
    cases hx : hp F L i with
    | none => exact absurd hx hi
    | some k =>
      rcases hp_mem hx with ⟨p, hp', rfl, rfl⟩ | ⟨h1, h2⟩
      · refine hp_some (.inr ?_)
        obtain ⟨q, hq, e⟩ := List.mem_map.1 (hL p hp')
        exact ⟨q, hq, e⟩
      · exact hp_some (.inl (by simp [h1]))

/-- Where ways meet: behind the code the state is looked at as one of a family. -/
theorem sw_meet {P : Program} {N : Nat} {F : AHeap} {Q Q' : SPost} {t : Slots} {L : Locs} {n : Nat} {c y : Code} {α : Type} (T : α → Slots) (H : α → Locs) (k : α → Nat) (I : α → Prop) (hfr : ∀ x, Fresh F (H x) (k x))
    (h1 : SW P N F c (sthen (fun t' L' n' => ∃ x, I x ∧ Weak N F t' (hp F L') (T x) (hp F (H x))) Q) t L n) (h2 : ∀ x, I x → SW P N F y Q' (T x) (H x) (k x)) : SW P N F c (sthen (SW P N F y Q') Q) t L n :=
  sw_mono h1 fun e t' L' n' q => by
    cases e with
    | normal =>
      obtain ⟨x, hx, hw⟩ := q
      exact sw_weak hw (hfr x) (h2 x hx)
    | _ => exact q

end Go.AM
