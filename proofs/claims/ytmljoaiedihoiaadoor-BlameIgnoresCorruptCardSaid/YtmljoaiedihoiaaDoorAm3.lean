/- A state may be looked at as another: what is no longer needed is dropped; a row that nobody writes any more becomes a plain list; a nil slice becomes an empty row of the call's own. Loops. -/
import Derived.Test.YtmljoaiedihoiaaDoorAm2
namespace Go.AM
set_option linter.unusedVariables false
set_option linter.unusedSimpArgs false
open Go Go.RowKit
set_option linter.unusedSectionVars false
variable [Glob]

mutual
def conv (D : Nat → Prop) (A : AV → AV → Prop) : AV → AV → Prop
  | .p x, y => y = .junk ∨ A (.p x) y ∨ y = .p x
  | .own id v o l, y => y = .junk ∨ A (.own id v o l) y ∨ (y = .own id v o l ∧ D id)
  | .ptr id v i j, y => y = .junk ∨ (y = .ptr id v i j ∧ D id)
  | .sub id v i j l, y => y = .junk ∨ (y = .sub id v i j l ∧ D id)
  | .iptr cs, y => y = .junk ∨ y = .iptr cs
  | .agg xs, y => y = .junk ∨ ∃ ys, y = .agg ys ∧ convL D A xs ys
  | .tup xs, y => y = .junk ∨ ∃ ys, y = .tup ys ∧ convL D A xs ys
  | .fn f xs zs, y => y = .junk ∨ ∃ ys ws, y = .fn f ys ws ∧ convL D A xs ys ∧ convL D A zs ws
  | .ifc t x, y => y = .junk ∨ ∃ x', y = .ifc t x' ∧ conv D A x x'
  | .junk, y => y = .junk
def convL (D : Nat → Prop) (A : AV → AV → Prop) : List AV → List AV → Prop
  | [], [] => True
  | x :: xs, y :: ys => conv D A x y ∧ convL D A xs ys
  | [], _ :: _ => False
  | _ :: _, [] => False
end

theorem conv_junk (D : Nat → Prop) (A : AV → AV → Prop) (x : AV) : conv D A x .junk := by cases x <;> simp [conv]

mutual
/-- What is kept reads in the new ghost as it read in the old. -/
theorem conv_rel {G G' : Gh} {D : Nat → Prop} {A : AV → AV → Prop} (hm : ∀ b o v, G.M b o = some v → G'.M b o = some v) (hl : ∀ id ver x, D id → G.loc id ver = some x → G'.loc id ver = some x)
    (hA : ∀ x y v, A x y → Rel G x v → Rel G' y v) : ∀ {x y : AV} {v : Value}, conv D A x y → Rel G x v → Rel G' y v
  | .p x, y, v, h, r => by
    simp only [conv] at h
    rcases h with rfl | h | rfl
    · simp [Rel]
    · exact hA _ _ _ h r
    · simp only [Rel] at r ⊢; exact PRel.mono hm r
  | .own .., y, v, h, r => by
    simp only [conv] at h
    rcases h with rfl | h | ⟨rfl, hd⟩
    · simp [Rel]
    · exact hA _ _ _ h r
    · simp only [Rel] at r ⊢
      obtain ⟨a, n, c, sz, a', h1, h2⟩ := r
      exact ⟨a, n, c, sz, a', hl _ _ _ hd h1, h2⟩
  | .ptr .., y, v, h, r => by
    simp only [conv] at h
    rcases h with rfl | ⟨rfl, hd⟩
    · simp [Rel]
    · simp only [Rel] at r ⊢
      obtain ⟨g, n, c, sz, h1, h2⟩ := r
      exact ⟨g, n, c, sz, hl _ _ _ hd h1, h2⟩
  | .sub .., y, v, h, r => by
    simp only [conv] at h
    rcases h with rfl | ⟨rfl, hd⟩
    · simp [Rel]
    · simp only [Rel] at r ⊢
      obtain ⟨g, n, c, sz, cap, h1, h2⟩ := r
      exact ⟨g, n, c, sz, cap, hl _ _ _ hd h1, h2⟩
  | .iptr cs, y, v, h, r => by
    simp only [conv] at h
    rcases h with rfl | rfl
    · simp [Rel]
    · simp only [Rel] at r ⊢
      obtain ⟨b, o, h1, h2⟩ := r
      exact ⟨b, o, h1, PCells.mono hm h2⟩
  | .agg xs, y, v, h, r => by
    simp only [conv] at h
    rcases h with rfl | ⟨ys, rfl, hc⟩
    · simp [Rel]
    · simp only [Rel] at r ⊢
      obtain ⟨vs, h1, h2⟩ := r
      exact ⟨vs, h1, convL_rel hm hl hA hc h2⟩
  | .tup xs, y, v, h, r => by
    simp only [conv] at h
    rcases h with rfl | ⟨ys, rfl, hc⟩
    · simp [Rel]
    · simp only [Rel] at r ⊢
      obtain ⟨vs, h1, h2⟩ := r
      exact ⟨vs, h1, convL_rel hm hl hA hc h2⟩
  | .fn f xs zs, y, v, h, r => by
    simp only [conv] at h
    rcases h with rfl | ⟨ys, ws, rfl, hc, hd⟩
    · simp [Rel]
    · simp only [Rel] at r ⊢
      obtain ⟨a, b, h1, h2, h3⟩ := r
      exact ⟨a, b, h1, convL_rel hm hl hA hc h2, convL_rel hm hl hA hd h3⟩
  | .ifc t x, y, v, h, r => by
    simp only [conv] at h
    rcases h with rfl | ⟨x', rfl, hc⟩
    · simp [Rel]
    · simp only [Rel] at r ⊢
      obtain ⟨u, h1, h2⟩ := r
      exact ⟨u, h1, conv_rel hm hl hA hc h2⟩
  | .junk, y, v, h, r => by
    simp only [conv] at h
    subst h
    simp [Rel]
theorem convL_rel {G G' : Gh} {D : Nat → Prop} {A : AV → AV → Prop} (hm : ∀ b o v, G.M b o = some v → G'.M b o = some v) (hl : ∀ id ver x, D id → G.loc id ver = some x → G'.loc id ver = some x)
    (hA : ∀ x y v, A x y → Rel G x v → Rel G' y v) : ∀ {xs ys : List AV} {vs : List Value}, convL D A xs ys → RelL G xs vs → RelL G' ys vs
  | [], [], [], _, _ => by simp [RelL]
  | x :: xs, y :: ys, v :: vs, h, r => by
    simp only [convL, RelL] at h r ⊢
    exact ⟨conv_rel hm hl hA h.1 r.1, convL_rel hm hl hA h.2 r.2⟩
  | [], _ :: _, _, h, _ => by simp [convL] at h
  | _ :: _, [], _, h, _ => by simp [convL] at h
  | [], [], _ :: _, _, r => by simp [RelL] at r
  | _ :: _, _ :: _, [], _, r => by simp [RelL] at r
end

theorem convL_append {D : Nat → Prop} {A : AV → AV → Prop} : ∀ {xs ys xs' ys' : List AV}, convL D A xs ys → convL D A xs' ys' → convL D A (xs ++ xs') (ys ++ ys')
  | [], [], _, _, _, h => by simpa using h
  | x :: xs, y :: ys, _, _, h, h' => by simp only [convL, List.cons_append] at h ⊢; exact ⟨h.1, convL_append h.2 h'⟩
  | [], _ :: _, _, _, h, _ => by simp [convL] at h
  | _ :: _, [], _, _, h, _ => by simp [convL] at h

def convE (D : Nat → Prop) (A : AV → AV → Prop) : List (List AV) → List (List AV) → Prop
  | [], [] => True
  | x :: xs, y :: ys => convL D A x y ∧ convE D A xs ys
  | [], _ :: _ => False
  | _ :: _, [] => False

theorem convE_flatten {D : Nat → Prop} {A : AV → AV → Prop} : ∀ {xs ys : List (List AV)}, convE D A xs ys → convL D A xs.flatten ys.flatten
  | [], [], _ => by simp [convL]
  | x :: xs, y :: ys, h => by simp only [convE, List.flatten_cons] at h ⊢; exact convL_append h.1 (convE_flatten h.2)
  | [], _ :: _, h => by simp [convE] at h
  | _ :: _, [], h => by simp [convE] at h

theorem convL_length {D : Nat → Prop} {A : AV → AV → Prop} : ∀ {xs ys : List AV}, convL D A xs ys → xs.length = ys.length
  | [], [], _ => rfl
  | _ :: _, _ :: _, h => by simp only [convL] at h; simp [convL_length h.2]
  | [], _ :: _, h => by simp [convL] at h
  | _ :: _, [], h => by simp [convL] at h

theorem convE_length {D : Nat → Prop} {A : AV → AV → Prop} : ∀ {xs ys : List (List AV)}, convE D A xs ys → xs.length = ys.length ∧ ∀ n, (∀ x ∈ xs, x.length = n) → ∀ y ∈ ys, y.length = n
  | [], [], _ => by simp
  | x :: xs, y :: ys, h => by
    simp only [convE] at h
    obtain ⟨h1, h2⟩ := convE_length h.2
    refine ⟨by simp [h1], fun n hn z hz => ?_⟩
    cases hz with
    | head => rw [← convL_length h.1]; exact hn x (by simp)
    | tail _ hz => exact h2 n (fun x hx => hn x (by simp [hx])) z hz
  | [], _ :: _, h => by simp [convE] at h
  | _ :: _, [], h => by simp [convE] at h

mutual
theorem conv_mono {D : Nat → Prop} {A A' : AV → AV → Prop} (hA : ∀ x y, A x y → A' x y) : ∀ {x y : AV}, conv D A x y → conv D A' x y
  | .p x, y, h => by simp only [conv] at h ⊢; exact h.imp id (Or.imp (hA _ _) id)
  | .own .., y, h => by simp only [conv] at h ⊢; exact h.imp id (Or.imp (hA _ _) id)
  | .ptr .., y, h => by simpa only [conv] using h
  | .sub .., y, h => by simpa only [conv] using h
  | .iptr .., y, h => by simpa only [conv] using h
  | .agg xs, y, h => by simp only [conv] at h ⊢; exact h.imp id fun ⟨ys, e, h⟩ => ⟨ys, e, convL_mono hA h⟩
  | .tup xs, y, h => by simp only [conv] at h ⊢; exact h.imp id fun ⟨ys, e, h⟩ => ⟨ys, e, convL_mono hA h⟩
  | .fn f xs zs, y, h => by simp only [conv] at h ⊢; exact h.imp id fun ⟨ys, ws, e, h, k⟩ => ⟨ys, ws, e, convL_mono hA h, convL_mono hA k⟩
  | .ifc t x, y, h => by simp only [conv] at h ⊢; exact h.imp id fun ⟨x', e, h⟩ => ⟨x', e, conv_mono hA h⟩
  | .junk, y, h => by simpa only [conv] using h
theorem convL_mono {D : Nat → Prop} {A A' : AV → AV → Prop} (hA : ∀ x y, A x y → A' x y) : ∀ {xs ys : List AV}, convL D A xs ys → convL D A' xs ys
  | [], [], _ => by simp [convL]
  | x :: xs, y :: ys, h => by simp only [convL] at h ⊢; exact ⟨conv_mono hA h.1, convL_mono hA h.2⟩
  | [], _ :: _, h => by simp [convL] at h
  | _ :: _, [], h => by simp [convL] at h
end

theorem convE_self_of {D : Nat → Prop} {A : AV → AV → Prop} : ∀ {xs : List (List AV)}, convL D A xs.flatten xs.flatten → convE D A xs xs
  | [], _ => by simp [convE]
  | x :: xs, h => by
    have split : ∀ {a b : List AV}, convL D A (a ++ b) (a ++ b) → convL D A a a ∧ convL D A b b := by
      intro a
      induction a with
      | nil => intro b h; exact ⟨by simp [convL], by simpa using h⟩
      | cons c a ih => intro b h; simp only [List.cons_append, convL] at h ⊢; exact ⟨⟨h.1, (ih h.2).1⟩, (ih h.2).2⟩
    simp only [List.flatten_cons] at h
    simp only [convE]
    exact ⟨(split h).1, convE_self_of (split h).2⟩

def convB (D : Nat → Prop) (A : AV → AV → Prop) : Blk → Blk → Prop
  | .row v e sz es, .row v' e' sz' es' => v' = v ∧ e' = e ∧ sz' = sz ∧ convE D A es es'

theorem convB_ver {D : Nat → Prop} {A : AV → AV → Prop} {k k' : Blk} (h : convB D A k k') : k'.ver = k.ver := by
  cases k; cases k'; exact h.1

theorem convB_brel {G G' : Gh} {D : Nat → Prop} {A : AV → AV → Prop} (hm : ∀ b o v, G.M b o = some v → G'.M b o = some v) (hl : ∀ id ver x, D id → G.loc id ver = some x → G'.loc id ver = some x)
    (hA : ∀ x y v, A x y → Rel G x v → Rel G' y v) (hw : G'.w0 = G.w0) {w : World} {id : Nat} {k k' : Blk} (hd : D id) (h : convB D A k k') (hM : ∀ g, cbOf G id k = some g → ∀ o, G'.M g o = G.M g o)
    (r : BRel G w id k) : BRel G' w id k' ∧ cbOf G' id k' = cbOf G id k := by
  cases k with
  | row v e sz es =>
    cases k' with
    | row v' e' sz' es' =>
      obtain ⟨rfl, rfl, rfl, hc⟩ := h
      obtain ⟨x, xs, h1, h2, h3, h4, h6, h5⟩ := r
      have hlen := convE_length hc
      have hl' := hl _ _ _ hd h1
      have hcb : cbOf G id (.row v' e' sz' es) = x.ownBlock := by simp [cbOf, h1]
      refine ⟨⟨x, xs, hl', ?_, convL_rel hm hl hA (convE_flatten hc) h3, hlen.2 _ h4, h6, fun g hg o => ?_⟩, ?_⟩
      · rw [hw, ← hlen.1]; exact h2
      · rw [hM g (by rw [hcb]; exact hg)]; exact h5 g hg o
      · simp [cbOf, h1, hl']

/-- Values and a heap may be looked at as others, and all that an elder ghost (of the heap h0) knows stays. -/
def WeakL (h0 : AHeap) (xs : List AV) (h : AHeap) (ys : List AV) (h' : AHeap) : Prop :=
  ∀ G0 G w vs, Anchor G0 h0 → G0.Le G → HRel G h w → RelL G xs vs → ∃ G', G0.Le G' ∧ HRel G' h' w ∧ RelL G' ys vs

theorem WeakL.refl (h0 : AHeap) (xs : List AV) (h : AHeap) : WeakL h0 xs h xs h := fun _ G _ _ _ hl hr r => ⟨G, hl, hr, r⟩

/-! ### Dropping -/

def noA : AV → AV → Prop := fun _ _ => False

mutual
theorem conv_self {G : Gh} {D : Nat → Prop} (hD : ∀ id ver x, G.loc id ver = some x → D id) : ∀ {x : AV} {v : Value}, Rel G x v → conv D noA x x
  | .p x, _, _ => by simp [conv]
  | .own id v o l, _, r => by
    simp only [Rel] at r
    obtain ⟨a, n, c, sz, a', h1, _⟩ := r
    simp only [conv]; exact .inr (.inr ⟨trivial, hD _ _ _ h1⟩)
  | .ptr id v i j, _, r => by
    simp only [Rel] at r
    obtain ⟨g, n, c, sz, h1, _⟩ := r
    simp only [conv]; exact .inr ⟨trivial, hD _ _ _ h1⟩
  | .sub id v i j l, _, r => by
    simp only [Rel] at r
    obtain ⟨g, n, c, sz, cap, h1, _⟩ := r
    simp only [conv]; exact .inr ⟨trivial, hD _ _ _ h1⟩
  | .iptr cs, _, _ => by simp [conv]
  | .agg cs, _, r => by
    simp only [Rel] at r
    obtain ⟨vs, _, h2⟩ := r
    simp only [conv]; exact .inr ⟨cs, rfl, convL_self hD h2⟩
  | .tup cs, _, r => by
    simp only [Rel] at r
    obtain ⟨vs, _, h2⟩ := r
    simp only [conv]; exact .inr ⟨cs, rfl, convL_self hD h2⟩
  | .fn f xs zs, _, r => by
    simp only [Rel] at r
    obtain ⟨a, b, _, h2, h3⟩ := r
    simp only [conv]; exact .inr ⟨xs, zs, rfl, convL_self hD h2, convL_self hD h3⟩
  | .ifc t x, _, r => by
    simp only [Rel] at r
    obtain ⟨u, _, h2⟩ := r
    simp only [conv]; exact .inr ⟨x, rfl, conv_self hD h2⟩
  | .junk, _, _ => by simp [conv]
theorem convL_self {G : Gh} {D : Nat → Prop} (hD : ∀ id ver x, G.loc id ver = some x → D id) : ∀ {xs : List AV} {vs : List Value}, RelL G xs vs → convL D noA xs xs
  | [], _, _ => by simp [convL]
  | x :: xs, v :: vs, r => by
    simp only [RelL] at r
    simp only [convL]; exact ⟨conv_self hD r.1, convL_self hD r.2⟩
  | _ :: _, [], r => by simp [RelL] at r
end

open Classical in
theorem weak_cut {h0 h h' : AHeap} {xs ys : List AV} (hx : convL (fun id => h' id ≠ none) noA xs ys)
    (hb : ∀ id k, h' id = some k → h id = some k ∧ (h0 id = some k ∨ convB (fun id => h' id ≠ none) noA k k)) (hd : ∀ id, h0 id ≠ none → h' id ≠ none) : WeakL h0 xs h ys h' := by
  intro G0 G w vs ⟨w1, ha⟩ hle hr hrel
  let G' : Gh := { M := G.M, loc := fun id ver => if h' id ≠ none then G.loc id ver else none, w0 := G.w0 }
  have hm : ∀ b o v, G.M b o = some v → G'.M b o = some v := fun _ _ _ h => h
  have hl : ∀ id ver x, h' id ≠ none → G.loc id ver = some x → G'.loc id ver = some x := fun id ver x hd h => by simp only [G']; rw [if_pos hd]; exact h
  have hA : ∀ x y v, noA x y → Rel G x v → Rel G' y v := fun _ _ _ h => h.elim
  have hle' : G0.Le G' := ⟨hle.m, fun id ver x hx => hl id ver x (hd id (ha.dom id ver x hx)) (hle.l id ver x hx), hle.w⟩
  refine ⟨G', hle', ?_, convL_rel hm hl hA hx hrel⟩
  have key : ∀ id k, h' id = some k → BRel G' w id k ∧ cbOf G' id k = cbOf G id k := by
    intro id k hk
    obtain ⟨h1, h2⟩ := hb id k hk
    have hd' : h' id ≠ none := by simp [hk]
    rcases h2 with h2 | h2
    · have b0 := ha.blk id k h2
      have b1 := hr.blk id k h1
      cases k with
      | row ver e sz es =>
        obtain ⟨x, xs', l1, o1, r1, s1, c1, m1⟩ := b1
        obtain ⟨x0, xs0, l0, o0, r0, _, _, _⟩ := b0
        refine ⟨⟨x, xs', hl _ _ _ hd' l1, o1, ?_, s1, c1, m1⟩, by simp [cbOf, l1, hl _ _ _ hd' l1]⟩
        exact convL_rel hm hl hA (convL_self (fun id ver x h => hd id (ha.dom id ver x h)) r0) r1
    · exact convB_brel hm hl hA rfl hd' h2 (fun _ _ _ => rfl) (hr.blk id k h1)
  refine ⟨hr.below, hr.imm, fun id k hk => (key id k hk).1, ?_, ?_, fun id k v hk hv => ?_, hr.glb⟩
  rotate_left 2
  · show (if h' id ≠ none then G.loc id v else none) = none
    rw [hr.top id k v (hb id k hk).1 hv]; split <;> rfl
  · intro i j k l b hij hi hj h1
    rw [(key i k hi).2] at h1
    rw [(key j l hj).2]
    exact hr.sep i j k l b hij (hb i k hi).1 (hb j l hj).1 h1
  · intro id ver x hx
    simp only [G'] at hx
    split at hx
    · assumption
    · cases hx

/-! ### The slots -/

theorem slots_of_list {G' : Gh} : ∀ {t' : Slots} {vs : List Value} (a : Act), RelL G' (t'.map (·.2)) vs → (∀ (i : Nat) (p : Nat × AV), t'[i]? = some p → vs[i]? = some (a.tmps.getD p.1 undef)) → ∀ i, Rel G' (look t' i) (a.tmps.getD i undef)
  | [], _, _, _, _, _ => by simp [look, Rel]
  | (j, x) :: r, [], _, h, _, _ => by simp [RelL] at h
  | (j, x) :: r, v :: vs, a, h, hv, i => by
    simp only [List.map_cons, RelL] at h
    simp only [look]
    split
    · rename_i e
      have := hv 0 (j, x) rfl
      simp only [List.getElem?_cons_zero, Option.some.injEq] at this
      rw [e, ← this]; exact h.1
    · exact slots_of_list a h.2 (fun i p hp => by have := hv (i + 1) p (by simpa using hp); simpa using this) i

theorem rel_slots {N : Nat} {G : Gh} {t : Slots} {h : AHeap} {a : Act} {w : World} (st : StRel N G t h a w) : ∀ (t' : Slots), RelL G (t'.map fun p => look t p.1) (t'.map fun p => a.tmps.getD p.1 undef)
  | [] => by simp [RelL]
  | p :: r => by simp only [List.map_cons, RelL]; exact ⟨st.slots p.1, rel_slots st r⟩

theorem weak_of_list {N : Nat} {h0 h h' : AHeap} {t t' : Slots} (H : WeakL h0 (t'.map fun p => look t p.1) h (t'.map (·.2)) h') : Weak N h0 t h t' h' := by
  intro G0 G a w ha hl st
  obtain ⟨G', hl', hh, hr⟩ := H G0 G w _ ha hl st.heap (rel_slots st t')
  exact ⟨G', hl', st.size, st.defers, slots_of_list a hr (fun i p hp => by rw [List.getElem?_map, hp]; rfl), hh⟩

def convT (D : Nat → Prop) (A : AV → AV → Prop) (t : Slots) : Slots → Prop
  | [] => True
  | p :: r => conv D A (look t p.1) p.2 ∧ convT D A t r

theorem convT_list {D : Nat → Prop} {A : AV → AV → Prop} {t : Slots} : ∀ {t' : Slots}, convT D A t t' → convL D A (t'.map fun p => look t p.1) (t'.map (·.2))
  | [], _ => by simp [convL]
  | p :: r, h => by simp only [convT, List.map_cons, convL] at h ⊢; exact ⟨h.1, convT_list h.2⟩

def keptB (F : AHeap) (L L' : List (Nat × Blk)) : List (Nat × Blk) → Prop
  | [] => True
  | p :: r => hp F L p.1 = some p.2 ∧ convB (fun id => hp F L' id ≠ none) noA p.2 p.2 ∧ keptB F L L' r
theorem keptB_mem {F : AHeap} {L L' : List (Nat × Blk)} : ∀ {M : List (Nat × Blk)}, keptB F L L' M → ∀ p ∈ M, hp F L p.1 = some p.2 ∧ convB (fun id => hp F L' id ≠ none) noA p.2 p.2
  | [], _, _, h => by cases h
  | q :: r, h, p, hp => by
    simp only [keptB] at h
    cases hp with
    | head => exact ⟨h.1, h.2.1⟩
    | tail _ hp => exact keptB_mem h.2.2 p hp

/-- Every block of L is one of L' too, or is none of F's. -/
def shed (F : AHeap) (L' : List (Nat × Blk)) : List (Nat × Blk) → Prop
  | [] => True
  | p :: r => (F p.1 = none ∨ p.1 ∈ L'.map (·.1)) ∧ shed F L' r
theorem shed_mem {F : AHeap} {L' : List (Nat × Blk)} : ∀ {M : List (Nat × Blk)}, shed F L' M → ∀ p ∈ M, F p.1 = none ∨ p.1 ∈ L'.map (·.1)
  | [], _, _, h => by cases h
  | q :: r, h, p, hp => by
    simp only [shed] at h
    cases hp with
    | head => exact h.1
    | tail _ hp => exact shed_mem h.2 p hp

theorem weakL_cut {F : AHeap} {L L' : List (Nat × Blk)} {xs ys : List AV} (hx : convL (fun id => hp F L' id ≠ none) noA xs ys) (hb : keptB F L L' L') (hL : shed F L' L) : WeakL F xs (hp F L) ys (hp F L') := by
  refine weak_cut hx ?_ fun id h => hp_some (.inl h)
  intro id k hk
  rcases hp_mem hk with ⟨p, hp', rfl, rfl⟩ | ⟨h1, h2⟩
  · have := keptB_mem hb p hp'
    exact ⟨this.1, .inr this.2⟩
  · refine ⟨?_, .inl h1⟩
    rw [hp_ne fun p hp' e => ?_]
    · exact h1
    · subst e
      rcases shed_mem hL p hp' with h | h
      · rw [h] at h1; cases h1
      · obtain ⟨q, hq, e⟩ := List.mem_map.1 h
        exact h2 q hq e

theorem weak_cut_hp {N : Nat} {F : AHeap} {L L' : List (Nat × Blk)} {t t' : Slots} (ht : convT (fun id => hp F L' id ≠ none) noA t t') (hb : keptB F L L' L') (hL : shed F L' L) : Weak N F t (hp F L) t' (hp F L') :=
  weak_of_list (weakL_cut (convT_list ht) hb hL)

end Go.AM
