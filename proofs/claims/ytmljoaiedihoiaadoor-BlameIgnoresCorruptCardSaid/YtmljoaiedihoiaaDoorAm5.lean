/- What an operation does to the abstract state: loads, stores, new blocks. -/
import Derived.Test.YtmljoaiedihoiaaDoorAm4
namespace Go.AM
set_option linter.unusedVariables false
set_option linter.unusedSimpArgs false
open Go Go.RowKit
set_option linter.unusedSectionVars false
variable [Glob]

theorem HRel.upd {G G' : Gh} {h : AHeap} {w w' : World} {id : Nat} {k : Blk} (H : HRel G h w) (hle : G.Le G') (hM : G'.M = G.M) (hloc : ∀ i ver x, G'.loc i ver = some x → G.loc i ver = some x ∨ i = id)
    {row : Option Nat} (hg : w.grownBy w' row) (hrow : ∀ g, row = some g → G.w0.heap.size ≤ g ∧ (∀ o, G.M g o = none) ∧ ∀ i l, i ≠ id → h i = some l → cbOf G i l ≠ some g)
    (hk : BRel G' w' id k) (hsep : ∀ g, cbOf G' id k = some g → row = some g ∨ w.heap.size ≤ g) (htop : ∀ v, k.ver < v → G'.loc id v = none) : HRel G' (hp h [(id, k)]) w' := by
  have hcb : ∀ i l, h i = some l → cbOf G' i l = cbOf G i l ∧ ∀ g, cbOf G i l = some g → g < w.heap.size := by
    intro i l hl
    have b := H.blk i l hl
    cases l with
    | row ver e sz es =>
      obtain ⟨v, xs, l1, o1, _⟩ := b
      have l2 := hle.l _ _ _ l1
      refine ⟨by simp [cbOf, l1, l2], fun g hg => ?_⟩
      simp [cbOf, l1] at hg
      exact (o1.lt g hg).2
  have hbase : G.w0.heap.size ≤ w.heap.size := H.below.size
  refine ⟨?_, ?_, ?_, ?_, ?_, fun i l v hl hv => ?_, by rw [hM]; exact H.glb⟩
  rotate_left 5
  · simp only [hp] at hl
    by_cases e : i = id
    · rw [if_pos e] at hl; cases hl; rw [e]; exact htop v hv
    · rw [if_neg e] at hl
      cases hx : G'.loc i v with
      | none => rfl
      | some x =>
        rcases hloc i v x hx with h1 | h1
        · rw [H.top i l v hl hv] at h1; cases h1
        · exact absurd h1 e
  · rw [hle.w]; exact H.below.grown hg hbase fun g hr => (hrow g hr).1
  · intro b o v hv
    rw [hM] at hv
    obtain ⟨h1, h2⟩ := H.imm b o v hv
    refine ⟨?_, h2⟩
    have hb : w'.heap[b]? = w.heap[b]? := hg.block b (World.block_lt_of_cell? w _ h1) fun e => by have := (hrow b e.symm).2.1 o; rw [hv] at this; cases this
    rw [World.cell?_of_block (w := w) (a := ⟨b, o, none⟩) hb]; exact h1
  · intro i l hl
    simp only [hp] at hl
    by_cases e : i = id
    · rw [if_pos e] at hl; cases hl; rw [e]; exact hk
    · rw [if_neg e] at hl
      have b := H.blk i l hl
      cases l with
      | row ver ee sz es =>
        obtain ⟨v, xs, l1, o1, r1, s1, c1, m1⟩ := b
        refine ⟨v, xs, hle.l _ _ _ l1, ?_, RelL.mono hle r1, s1, c1, ?_⟩
        · rw [hle.w]
          refine o1.kept hg ?_
          cases hv : v.ownBlock with
          | none => exact .inl rfl
          | some g => exact .inr fun er => (hrow g er.symm).2.2 i _ e hl (by simp [cbOf, l1, hv])
        · rw [hM]; exact m1
  · intro i j k1 l b hij hi hj h1
    simp only [hp] at hi hj
    by_cases e1 : i = id
    · rw [if_pos e1] at hi; cases hi
      rw [if_neg (fun e => hij (e1.trans e.symm))] at hj
      obtain ⟨c2, lt2⟩ := hcb j l hj
      rw [c2]
      rw [e1] at h1
      intro h2
      rcases hsep b h1 with hr | hr
      · exact (hrow b hr).2.2 j l (fun e => hij (e1.trans e.symm)) hj h2
      · have := lt2 b h2; omega
    · rw [if_neg e1] at hi
      obtain ⟨c1, lt1⟩ := hcb i k1 hi
      rw [c1] at h1
      by_cases e2 : j = id
      · rw [if_pos e2] at hj; cases hj
        rw [e2]
        intro h2
        rcases hsep b h2 with hr | hr
        · exact (hrow b hr).2.2 i k1 e1 hi h1
        · have := lt1 b h1; omega
      · rw [if_neg e2] at hj
        rw [(hcb j l hj).1]
        exact H.sep i j k1 l b hij hi hj h1
  · intro i ver x hx
    rcases hloc i ver x hx with h1 | h1
    · exact hp_some (.inl (H.dom i ver x h1))
    · exact hp_some (.inr ⟨(id, k), by simp, h1.symm⟩)

end Go.AM
