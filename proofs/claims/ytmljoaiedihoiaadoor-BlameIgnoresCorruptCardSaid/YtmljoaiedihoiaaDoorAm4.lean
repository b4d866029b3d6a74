/- A row that nobody writes any more becomes a plain list; a nil slice becomes an empty row of the call's own. -/
import Derived.Test.YtmljoaiedihoiaaDoorAm3
namespace Go.AM
set_option linter.unusedVariables false
set_option linter.unusedSimpArgs false
open Go Go.RowKit
set_option linter.unusedSectionVars false
variable [Glob]

/-- Pure cells as cells. -/
abbrev pcells (es : List (List PV)) : List (List AV) := es.map fun e => e.map AV.p

theorem flat_pcells (es : List (List PV)) : (pcells es).flatten = es.flatten.map AV.p := by
  induction es with
  | nil => rfl
  | cons e es ih => simp only [pcells, List.map_cons, List.flatten_cons, List.map_append] at ih ⊢; rw [ih]

theorem cells_frozen {M M' : Nat → Nat → Option Value} {G : Gh} (hG : G.M = M) (hm : ∀ b o v, M b o = some v → M' b o = some v) (g : Nat) : ∀ {cs : List PV} {xs : List Value} {o : Nat}, RelL G (cs.map AV.p) xs →
    (∀ (j : Nat) (x : Value), xs[j]? = some x → M' g (o + j) = some x) → PCells M' g o cs
  | [], _, _, _, _ => by simp [PCells]
  | c :: cs, [], _, h, _ => by simp [RelL] at h
  | c :: cs, x :: xs, o, h, hx => by
    simp only [List.map_cons, RelL, Rel] at h
    simp only [PCells]
    refine ⟨⟨x, by simpa using hx 0 x rfl, PRel.mono hm (hG ▸ h.1)⟩, cells_frozen hG hm g h.2 fun j y hy => ?_⟩
    have := hx (j + 1) y (by simpa using hy)
    rwa [show o + (j + 1) = o + 1 + j by omega] at this

theorem els_frozen {M M' : Nat → Nat → Option Value} {G : Gh} (hG : G.M = M) (hm : ∀ b o v, M b o = some v → M' b o = some v) (g sz : Nat) : ∀ {es : List (List PV)} {xs : List Value} {o : Nat}, RelL G (es.flatten.map AV.p) xs → (∀ e ∈ es, e.length = sz) →
    (∀ (j : Nat) (x : Value), xs[j]? = some x → M' g (o + j) = some x) → PEls M' g o sz es
  | [], _, _, _, _, _ => by simp [PEls]
  | e :: es, xs, o, h, hs, hx => by
    have he := hs e (by simp)
    have hl := h.length
    have h1 := RelL.take e.length h
    have h2 := RelL.drop e.length h
    simp only [List.flatten_cons, List.map_append] at h1 h2
    rw [List.take_left' (by simp)] at h1
    rw [List.drop_left' (by simp)] at h2
    simp only [PEls]
    refine ⟨he, cells_frozen hG hm g h1 fun j y hy => ?_, els_frozen hG hm g sz h2 (fun e he => hs e (by simp [he])) fun j y hy => ?_⟩
    · rw [List.getElem?_take] at hy
      split at hy
      · exact hx j y hy
      · cases hy
    · rw [List.getElem?_drop] at hy
      have := hx _ y hy
      rwa [he, show o + (sz + j) = o + sz + j by omega] at this

def frzA (id ver sz : Nat) (es : List (List PV)) (x y : AV) : Prop := ∃ off len, x = .own id ver off len ∧ y = .p (.sl sz ((es.drop off).take len))

open Classical in
theorem weak_freeze {h0 h h' : AHeap} {xs ys : List AV} {id ver sz : Nat} {e : TypeId} {es : List (List PV)} (hk : h id = some (.row ver e sz (pcells es))) (hx : convL (fun i => h' i ≠ none) (frzA id ver sz es) xs ys)
    (hid : h' id = none) (hb : ∀ i k', h' i = some k' → ∃ k, h i = some k ∧ ((h0 i = some k ∧ k' = k) ∨ convB (fun i => h' i ≠ none) (frzA id ver sz es) k k'))
    (hd : ∀ id, h0 id ≠ none → h' id ≠ none) : WeakL h0 xs h ys h' := by
  intro G0 G w vs ⟨w1, ha⟩ hle hr hrel
  obtain ⟨v, cs, hl0, hown, hcs, hsz, hone, hMn⟩ := hr.blk id _ hk
  have hsz' : ∀ e ∈ es, e.length = sz := fun e he => by have := hsz (e.map AV.p) (List.mem_map.2 ⟨e, he, rfl⟩); simpa using this
  rw [flat_pcells] at hcs
  let M' : Nat → Nat → Option Value := fun b o => if v.ownBlock = some b then cs[o]? else G.M b o
  let G' : Gh := { M := M', loc := fun i ver => if h' i ≠ none then G.loc i ver else none, w0 := G.w0 }
  have hm : ∀ b o v, G.M b o = some v → G'.M b o = some v := fun b o u hu => by
    show M' b o = _
    simp only [M']
    split
    · rename_i e; rw [hMn b e o] at hu; cases hu
    · exact hu
  have hl : ∀ i ver x, h' i ≠ none → G.loc i ver = some x → G'.loc i ver = some x := fun i ver x hd h => by simp only [G']; rw [if_pos hd]; exact h
  have hA : ∀ x y u, frzA id ver sz es x y → Rel G x u → Rel G' y u := by
    rintro x y u ⟨off, len, rfl, rfl⟩ r
    simp only [Rel] at r
    obtain ⟨a, n, c, sz1, a', h1, h2, h3, rfl, h5, h4⟩ := r
    rw [hl0] at h1
    cases h1
    have hn : n = es.length := by
      rcases hown.2 with ⟨e1, e2⟩ | ⟨g, cap, cur, e1, _⟩
      · cases e1; simpa using e2.symm
      · cases e1; simp
    simp only [Rel, PRel]
    refine ⟨a', len, c - off, rfl, by simp; omega, by omega, h5, ?_⟩
    by_cases h0 : 0 < len
    · refine .inr ?_
      have e4 := h4 (.inl h0)
      rcases hown.2 with ⟨e1, _⟩ | ⟨g, cap, cur, e1, _, hg, hcap, _, hcur, htk⟩
      · cases e1; omega
      · cases e1
        simp only [Option.map_some] at e4
        refine ⟨g, off * sz, e4, ?_⟩
        have hE : PEls M' g 0 sz es := els_frozen rfl hm g sz hcs hsz' (fun j x hx => by
          show (if Value.ownBlock _ = some g then cs[0 + j]? else _) = _
          rw [if_pos (show Value.ownBlock _ = some g from rfl)]; simpa using hx)
        have := PEls.take len (PEls.drop off hE)
        simpa using this
    · exact .inl (by rw [show len = 0 by omega]; simp)
  have hle' : G0.Le G' := ⟨fun b o v h => hm _ _ _ (hle.m b o v h), fun i ver x hx => hl i ver x (hd i (ha.dom i ver x hx)) (hle.l i ver x hx), hle.w⟩
  have hnot : ∀ i k, i ≠ id → h i = some k → ∀ g, cbOf G i k = some g → v.ownBlock ≠ some g := fun i k hi hik g hg => by
    have := hr.sep i id k _ g hi hik hk hg
    simpa [cbOf, hl0] using this
  refine ⟨G', hle', ?_, convL_rel hm hl hA hx hrel⟩
  have hne : ∀ i k', h' i = some k' → i ≠ id := fun i k' h e => by rw [e, hid] at h; cases h
  have hMk : ∀ i k, i ≠ id → h i = some k → ∀ g, cbOf G i k = some g → ∀ o, G'.M g o = G.M g o := fun i k hi hik g hg o => by
    show M' g o = _
    simp only [M']
    rw [if_neg (hnot i k hi hik g hg)]
  have key : ∀ i k', h' i = some k' → ∃ k, h i = some k ∧ (BRel G' w i k' ∧ cbOf G' i k' = cbOf G i k) ∧ k'.ver = k.ver := by
    intro i k' hk'
    obtain ⟨k, h1, h2⟩ := hb i k' hk'
    have hd' : h' i ≠ none := by simp [hk']
    refine ⟨k, h1, ?_, by rcases h2 with ⟨_, rfl⟩ | h2; rfl; exact convB_ver h2⟩
    rcases h2 with ⟨h2, rfl⟩ | h2
    · have b0 := ha.blk i k' h2
      have b1 := hr.blk i k' h1
      have hc : convB (fun i => h' i ≠ none) (frzA id ver sz es) k' k' := by
        cases k' with
        | row ver2 e2 sz2 es2 =>
          obtain ⟨x0, xs0, l0, o0, r0, _, _, _⟩ := b0
          refine ⟨rfl, rfl, rfl, ?_⟩
          have hcl := convL_self (fun id ver x h => hd id (ha.dom id ver x h)) r0
          exact convE_self_of (convL_mono (fun _ _ h => h.elim) hcl)
      exact convB_brel hm hl hA rfl hd' hc (hMk i k' (hne i k' hk') h1) b1
    · exact convB_brel hm hl hA rfl hd' h2 (hMk i k (hne i k' hk') h1) (hr.blk i k h1)
  refine ⟨hr.below, ?_, fun i k' hk' => by obtain ⟨k, _, ⟨h2, _⟩, _⟩ := key i k' hk'; exact h2, ?_, ?_, fun i k' v hk' hv => ?_, fun p hp => PCells.mono hm (hr.glb p hp)⟩
  rotate_left 3
  · obtain ⟨k, h1, _, h3⟩ := key i k' hk'
    show (if h' i ≠ none then G.loc i v else none) = none
    rw [hr.top i k v h1 (by omega)]; split <;> rfl
  · intro b o u hu
    change M' b o = some u at hu
    simp only [M'] at hu
    split at hu
    · rename_i e
      rcases hown.2 with ⟨rfl, _⟩ | ⟨g, cap, cur, rfl, _, hg, hcap, _, hcur, htk⟩
      · simp [Value.ownBlock] at e
      · simp [Value.ownBlock] at e
        subst e
        refine ⟨?_, hone u (List.mem_of_getElem? hu)⟩
        have := hown.cells (g := g) rfl o u hu
        rwa [show (⟨g, 0, none⟩ : Addr).add o = ⟨g, o, none⟩ from by unfold Addr.add; split <;> simp_all] at this
    · exact hr.imm b o u hu
  · intro i j k l b hij hi hj h1
    obtain ⟨k1, a1, ⟨_, c1⟩, _⟩ := key i k hi
    obtain ⟨l1, a2, ⟨_, c2⟩, _⟩ := key j l hj
    rw [c1] at h1
    rw [c2]
    exact hr.sep i j k1 l1 b hij a1 a2 h1
  · intro i ver x hx
    simp only [G'] at hx
    split at hx
    · assumption
    · cases hx

theorem weakL_freeze {F : AHeap} {L L' : List (Nat × Blk)} {xs ys : List AV} {id ver sz : Nat} {e : TypeId} {es : List (List PV)} (hk : hp F L id = some (.row ver e sz (pcells es)))
    (hx : convL (fun i => hp F L' i ≠ none) (frzA id ver sz es) xs ys) (hid : hp F L' id = none)
    (hb : ∀ p ∈ L', ∃ k, hp F L p.1 = some k ∧ convB (fun i => hp F L' i ≠ none) (frzA id ver sz es) k p.2) (hL : shed F L' L) : WeakL F xs (hp F L) ys (hp F L') := by
  refine weak_freeze hk hx hid ?_ fun id h => hp_some (.inl h)
  intro i k' hk'
  rcases hp_mem hk' with ⟨p, hp', rfl, rfl⟩ | ⟨h1, h2⟩
  · obtain ⟨k, h1, h2⟩ := hb p hp'
    exact ⟨k, h1, .inr h2⟩
  · refine ⟨k', ?_, .inl ⟨h1, rfl⟩⟩
    rw [hp_ne fun p hp' e => ?_]
    · exact h1
    · subst e
      rcases shed_mem hL p hp' with h | h
      · rw [h] at h1; cases h1
      · obtain ⟨q, hq, e⟩ := List.mem_map.1 h
        exact h2 q hq e

/-! ### A nil slice as an empty row -/

def nilA (id : Nat) (x y : AV) : Prop := x = .p (.v (.slice none 0 0)) ∧ y = .own id 0 0 0

theorem weak_adopt {h0 h h' : AHeap} {xs ys : List AV} {id sz : Nat} {e : TypeId} (hn : h id = none) (hi : h' id = some (.row 0 e sz [])) (hx : convL (fun i => h i ≠ none) (nilA id) xs ys)
    (hb : ∀ i k', i ≠ id → h' i = some k' → ∃ k, h i = some k ∧ (k' = k ∨ convB (fun i => h i ≠ none) (nilA id) k k'))
    (hd : ∀ i, h i ≠ none → h' i ≠ none) : WeakL h0 xs h ys h' := by
  intro G0 G w vs _ hle hr hrel
  let G' : Gh := { M := G.M, loc := fun i ver => if i = id ∧ ver = 0 then some (.slice none 0 0, sz) else G.loc i ver, w0 := G.w0 }
  have hnot : ∀ i ver x, G.loc i ver = some x → i ≠ id := fun i ver x h e => hr.dom i ver x h (e ▸ hn)
  have hl : ∀ i ver x, G.loc i ver = some x → G'.loc i ver = some x := fun i ver x h => by
    show (if i = id ∧ ver = 0 then _ else _) = _
    rw [if_neg (fun e => hnot i ver x h e.1)]; exact h
  have hm : ∀ b o v, G.M b o = some v → G'.M b o = some v := fun _ _ _ h => h
  have hA : ∀ x y u, nilA id x y → Rel G x u → Rel G' y u := by
    rintro x y u ⟨rfl, rfl⟩ r
    simp only [Rel, PRel] at r
    subst r
    simp only [Rel]
    refine ⟨none, 0, 0, sz, none, ?_, by omega, by omega, rfl, fun _ => rfl, fun _ => rfl⟩
    show (if id = id ∧ 0 = 0 then _ else _) = _
    simp
  have hle1 : G.Le G' := ⟨hm, hl, rfl⟩
  refine ⟨G', hle.trans hle1, ?_, convL_rel hm (fun i v x _ h => hl i v x h) hA hx hrel⟩
  have key : ∀ i k', i ≠ id → h' i = some k' → ∃ k, h i = some k ∧ (BRel G' w i k' ∧ cbOf G' i k' = cbOf G i k) ∧ k'.ver = k.ver := by
    intro i k' hi hk'
    obtain ⟨k, h1, h2⟩ := hb i k' hi hk'
    refine ⟨k, h1, ?_, by rcases h2 with rfl | h2; rfl; exact convB_ver h2⟩
    have hd' : h i ≠ none := by simp [h1]
    rcases h2 with rfl | h2
    · have b1 := hr.blk i k' h1
      have hc : convB (fun i => h i ≠ none) (nilA id) k' k' := by
        cases k' with
        | row ver2 e2 sz2 es2 =>
          obtain ⟨x0, xs0, l0, o0, r0, _, _, _⟩ := b1
          exact ⟨rfl, rfl, rfl, convE_self_of (convL_mono (fun _ _ h => h.elim) (convL_self (fun id ver x h => hr.dom id ver x h) r0))⟩
      exact convB_brel hm (fun i v x _ h => hl i v x h) hA rfl hd' hc (fun _ _ _ => rfl) b1
    · exact convB_brel hm (fun i v x _ h => hl i v x h) hA rfl hd' h2 (fun _ _ _ => rfl) (hr.blk i k h1)
  have hloc : G'.loc id 0 = some (.slice none 0 0, sz) := by
    show (if id = id ∧ 0 = 0 then _ else _) = _
    simp
  refine ⟨hr.below, hr.imm, fun i k' hk' => ?_, ?_, ?_, fun i k' v hk' hv => ?_, hr.glb⟩
  rotate_left 3
  · show (if i = id ∧ v = 0 then some (Value.slice none 0 0, sz) else G.loc i v) = none
    by_cases e1 : i = id
    · rw [if_neg (by omega)]
      cases hg : G.loc i v with
      | none => rfl
      | some x => exact absurd e1 (hnot i v x hg)
    · rw [if_neg (fun e => e1 e.1)]
      obtain ⟨k, h1, _, h3⟩ := key i k' e1 hk'
      exact hr.top i k v h1 (by omega)
  · by_cases e1 : i = id
    · subst e1
      rw [hi] at hk'
      cases hk'
      exact ⟨_, [], hloc, World.ownsRow_nil w _ e sz, by simp [RelL], by simp, by simp, by simp [Value.ownBlock]⟩
    · obtain ⟨k, _, ⟨h2, _⟩, _⟩ := key i k' e1 hk'; exact h2
  · intro i j k l b hij hi' hj h1
    by_cases e1 : i = id
    · subst e1
      rw [hi] at hi'
      cases hi'
      simp [cbOf, hloc, Value.ownBlock] at h1
    · obtain ⟨k1, a1, ⟨_, c1⟩, _⟩ := key i k e1 hi'
      rw [c1] at h1
      by_cases e2 : j = id
      · subst e2
        rw [hi] at hj
        cases hj
        simp [cbOf, hloc, Value.ownBlock]
      · obtain ⟨l1, a2, ⟨_, c2⟩, _⟩ := key j l e2 hj
        rw [c2]
        exact hr.sep i j k1 l1 b hij a1 a2 h1
  · intro i ver x hx
    by_cases e1 : i = id
    · subst e1; rw [hi]; simp
    · refine hd i ?_
      have : G.loc i ver = some x := by
        have : (if i = id ∧ ver = 0 then some (Value.slice none 0 0, sz) else G.loc i ver) = some x := hx
        rwa [if_neg (fun e => e1 e.1)] at this
      exact hr.dom i ver x this

end Go.AM
