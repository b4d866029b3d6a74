/- A region that draws its order: whatever order the tape picks, the text's order tells what it comes to, if no two operations that are not ordered meet in a slot or a block. -/
import Derived.Test.YtmljoaiedihoiaaDoorAm17
namespace Go.AM
set_option linter.unusedVariables false
set_option linter.unusedSimpArgs false
open Go Go.RowKit
set_option linter.unusedSectionVars false
variable [Glob]

structure Ef where
  on : Bool
  rd : Locs
  wr : Locs
  v : AV

/-- What the operation needs and does, wherever it is carried out. -/
def OpLoc (P : Program) (o : Oper) (t : Slots) (e : Ef) : Prop :=
  ∀ (t' : Slots) (h' : AHeap), (∀ x ∈ o.op.operands, aev t' x = aev t x) → (∀ p ∈ e.rd, h' p.1 = some p.2) → (∀ p ∈ e.wr, (∃ q ∈ e.rd, q.1 = p.1) ∨ h' p.1 = none) →
    (∃ m, ∀ k, m ≤ k → h' k = none) → ∀ {G : Gh} {a : Act} {w : World}, HRel G h' w → (∀ x, Rel G (aev t' x) (a.eval x)) → ∀ {K : Act → World → Prop} {Q' : Exit → Act → World → Prop},
      (∀ u G' w', G.Le G' → HRel G' (hp h' e.wr) w' → Rel G' e.v u → K (a.put o.dst u) w') → o.wp P a w K Q'

def EOk (P : Program) (N : Nat) (ops : List Oper) (o : Oper) (e : Ef) (t : Slots) (h : AHeap) : Prop :=
  fits N o.dst = true ∧ awanted ops t o = some e.on ∧ (e.on = false → e.wr = [] ∧ e.v = .p (.v undef)) ∧
    (e.on = true → (∀ p ∈ e.rd, h p.1 = some p.2) ∧ (∀ p ∈ e.wr, (∃ q ∈ e.rd, q.1 = p.1) ∨ h p.1 = none) ∧ OpLoc P o t e)

/-- The text's order. -/
def EChain (P : Program) (N : Nat) (ops : List Oper) : List Oper → List Ef → Slots → AHeap → Prop
  | [], [], _, _ => True
  | o :: os, e :: es, t, h => EOk P N ops o e t h ∧ EChain P N ops os es (aput t o.dst e.v) (hp h e.wr)
  | _, _, _, _ => False

/-- The slots when the operations of S have been carried out. -/
def slotsAt (S : Nat → Bool) : List Oper → List Ef → Nat → Slots → Slots
  | o :: os, e :: es, k, t => slotsAt S os es (k + 1) (if S k then aput t o.dst e.v else t)
  | _, _, _, t => t
def heapAt (S : Nat → Bool) : List Ef → Nat → AHeap → AHeap
  | e :: es, k, h => heapAt S es (k + 1) (if S k then hp h e.wr else h)
  | [], _, h => h

theorem look_aput_ne {t : Slots} {d : Option Tmp} {v : AV} {x : Nat} (h : d ≠ some x) : look (aput t d v) x = look t x := by
  cases d with
  | none => rfl
  | some d => rw [look_aput, if_neg (fun e => h (by rw [e]))]

theorem slotsAt_agree {S S' : Nat → Bool} {x : Nat} : ∀ {os : List Oper} {es : List Ef} {k : Nat} {t t' : Slots}, look t x = look t' x →
    (∀ (j : Nat) (o : Oper), os[j]? = some o → S (k + j) ≠ S' (k + j) → o.dst ≠ some x) → look (slotsAt S os es k t) x = look (slotsAt S' os es k t') x
  | [], _, _, _, _, h, _ => by simpa [slotsAt] using h
  | _ :: _, [], _, _, _, h, _ => by simpa [slotsAt] using h
  | o :: os, e :: es, k, t, t', h, hd => by
    simp only [slotsAt]
    refine slotsAt_agree ?_ fun j o' ho hne => hd (j + 1) o' (by simpa using ho) (by rwa [show k + (j + 1) = k + 1 + j by omega])
    by_cases h1 : S k = true <;> by_cases h2 : S' k = true
    · rw [if_pos h1, if_pos h2]
      cases hdst : o.dst with
      | none => simpa [aput] using h
      | some d => rw [look_aput, look_aput, h]
    · rw [if_pos h1, if_neg h2, look_aput_ne (hd 0 o rfl (by simp [h1, h2]))]; exact h
    · rw [if_neg h1, if_pos h2, look_aput_ne (hd 0 o rfl (by simp [h1, h2]))]; exact h
    · rw [if_neg h1, if_neg h2]; exact h

theorem slotsAt_last {S : Nat → Bool} {x : Nat} : ∀ {os : List Oper} {es : List Ef} {k i : Nat} {t : Slots} {o : Oper} {e : Ef}, os[i]? = some o → es[i]? = some e → S (k + i) = true → o.dst = some x →
    (∀ (j : Nat) (o' : Oper), i < j → os[j]? = some o' → S (k + j) = true → o'.dst ≠ some x) → look (slotsAt S os es k t) x = e.v
  | [], _, _, _, _, _, _, h, _, _, _, _ => by simp at h
  | _ :: _, [], _, _, _, _, _, _, h, _, _, _ => by simp at h
  | o :: os, e :: es, k, 0, t, o', e', ho, he, hS, hd, hl => by
    simp at ho he
    subst ho he
    simp only [slotsAt]
    rw [if_pos (by simpa using hS)]
    have : look (slotsAt S os es (k + 1) (aput t o.dst e.v)) x = look (slotsAt (fun _ => false) os es (k + 1) (aput t o.dst e.v)) x :=
      slotsAt_agree rfl fun j o' ho' hne => by
        refine hl (j + 1) o' (by omega) (by simpa using ho') ?_
        rw [show k + (j + 1) = k + 1 + j by omega]; simpa using hne
    rw [this]
    have none_ : ∀ (os : List Oper) (es : List Ef) (k : Nat) (t : Slots), slotsAt (fun _ => false) os es k t = t := by
      intro os
      induction os with
      | nil => intro es k t; simp [slotsAt]
      | cons o os ih => intro es k t; cases es with
        | nil => simp [slotsAt]
        | cons e es => simp [slotsAt, ih]
    rw [none_, hd, look_aput, if_pos rfl]
  | o :: os, e :: es, k, i + 1, t, o', e', ho, he, hS, hd, hl => by
    simp only [slotsAt]
    exact slotsAt_last (i := i) (by simpa using ho) (by simpa using he) (by rwa [show k + 1 + i = k + (i + 1) by omega]) hd fun j o'' hij ho'' hS' =>
      hl (j + 1) o'' (by omega) (by simpa using ho'') (by rwa [show k + (j + 1) = k + 1 + j by omega])

def wids (e : Ef) : List Nat := e.wr.map (·.1)
def rids (e : Ef) : List Nat := e.rd.map (·.1)

theorem hp_same {h h' : AHeap} {id : Nat} (e : h id = h' id) : ∀ (wr : Locs), hp h wr id = hp h' wr id
  | [] => e
  | (i, k) :: r => by simp only [hp]; split; rfl; exact hp_same e r

theorem heapAt_agree {S S' : Nat → Bool} {id : Nat} : ∀ {es : List Ef} {k : Nat} {h h' : AHeap}, h id = h' id → (∀ (j : Nat) (e : Ef), es[j]? = some e → S (k + j) ≠ S' (k + j) → id ∉ wids e) → heapAt S es k h id = heapAt S' es k h' id
  | [], _, _, _, h, _ => by simpa [heapAt] using h
  | e :: es, k, h, h', hh, hd => by
    simp only [heapAt]
    refine heapAt_agree ?_ fun j e' he hne => hd (j + 1) e' (by simpa using he) (by rwa [show k + (j + 1) = k + 1 + j by omega])
    have ne : id ∉ wids e → ∀ h : AHeap, hp h e.wr id = h id := fun hn h => hp_ne fun p hp e => hn (List.mem_map.2 ⟨p, hp, e⟩)
    by_cases h1 : S k = true <;> by_cases h2 : S' k = true
    · rw [if_pos h1, if_pos h2]; exact hp_same hh _
    · rw [if_pos h1, if_neg h2, ne (hd 0 e rfl (by simp [h1, h2]))]; exact hh
    · rw [if_neg h1, if_pos h2, ne (hd 0 e rfl (by simp [h1, h2]))]; exact hh
    · rw [if_neg h1, if_neg h2]; exact hh

theorem hp_over {h h' : AHeap} {id : Nat} : ∀ {wr : Locs}, id ∈ wr.map (·.1) → hp h wr id = hp h' wr id
  | [], h => by simp at h
  | (i, k) :: r, hm => by
    simp only [hp]
    by_cases e : id = i
    · rw [if_pos e, if_pos e]
    · rw [if_neg e, if_neg e]
      simp only [List.map_cons, List.mem_cons] at hm
      exact hp_over (hm.resolve_left e)

theorem heapAt_last {S : Nat → Bool} {id : Nat} {h2 : AHeap} : ∀ {es : List Ef} {k i : Nat} {h : AHeap} {e : Ef}, es[i]? = some e → S (k + i) = true → id ∈ wids e →
    (∀ (j : Nat) (e' : Ef), i < j → es[j]? = some e' → S (k + j) = true → id ∉ wids e') → heapAt S es k h id = hp h2 e.wr id
  | [], _, _, _, _, h, _, _, _ => by simp at h
  | e :: es, k, 0, h, e', he, hS, hm, hl => by
    simp at he
    subst he
    simp only [heapAt]
    rw [if_pos (by simpa using hS)]
    have : heapAt S es (k + 1) (hp h e.wr) id = heapAt (fun _ => false) es (k + 1) (hp h e.wr) id :=
      heapAt_agree rfl fun j e' he' hne => by
        refine hl (j + 1) e' (by omega) (by simpa using he') ?_
        rw [show k + (j + 1) = k + 1 + j by omega]; simpa using hne
    rw [this]
    have none_ : ∀ (es : List Ef) (k : Nat) (h : AHeap), heapAt (fun _ => false) es k h = h := by
      intro es
      induction es with
      | nil => intro k h; rfl
      | cons e es ih => intro k h; simp [heapAt, ih]
    rw [none_]
    exact hp_over hm
  | e :: es, k, i + 1, h, e', he, hS, hm, hl => by
    simp only [heapAt]
    exact heapAt_last (i := i) (by simpa using he) (by rwa [show k + 1 + i = k + (i + 1) by omega]) hm fun j e'' hij he'' hS' =>
      hl (j + 1) e'' (by omega) (by simpa using he'') (by rwa [show k + (j + 1) = k + 1 + j by omega])

theorem EChain.at {P : Program} {N : Nat} {ops : List Oper} : ∀ {os : List Oper} {es : List Ef} {t : Slots} {h : AHeap} (k : Nat) (i : Nat) {o : Oper}, EChain P N ops os es t h → os[i]? = some o →
    ∃ e, es[i]? = some e ∧ EOk P N ops o e (slotsAt (fun j => decide (j < k + i)) os es k t) (heapAt (fun j => decide (j < k + i)) es k h)
  | [], _, _, _, _, _, _, _, ho => by simp at ho
  | _ :: _, [], _, _, _, _, _, H, _ => by simp [EChain] at H
  | o :: os, e :: es, t, h, k, 0, o', H, ho => by
    simp at ho
    subst ho
    refine ⟨e, rfl, ?_⟩
    have h1 : ∀ (os : List Oper) (es : List Ef) (m : Nat) (t : Slots), k ≤ m → slotsAt (fun j => decide (j < k + 0)) os es m t = t := by
      intro os
      induction os with
      | nil => intro es m t _; simp [slotsAt]
      | cons o os ih => intro es m t hm; cases es with
        | nil => simp [slotsAt]
        | cons e es => simp only [slotsAt]; rw [if_neg (by simp; omega)]; exact ih es (m + 1) t (by omega)
    have h2 : ∀ (es : List Ef) (m : Nat) (h : AHeap), k ≤ m → heapAt (fun j => decide (j < k + 0)) es m h = h := by
      intro es
      induction es with
      | nil => intro m h _; rfl
      | cons e es ih => intro m h hm; simp only [heapAt]; rw [if_neg (by simp; omega)]; exact ih (m + 1) h (by omega)
    rw [h1 _ _ _ _ (Nat.le_refl _), h2 _ _ _ (Nat.le_refl _)]
    exact H.1
  | o :: os, e :: es, t, h, k, i + 1, o', H, ho => by
    obtain ⟨e', he', hE⟩ := EChain.at (k + 1) i H.2 (by simpa using ho)
    refine ⟨e', by simpa using he', ?_⟩
    simp only [slotsAt, heapAt]
    rw [if_pos (by simp), if_pos (by simp)]
    rwa [show k + (i + 1) = k + 1 + i by omega]

theorem EChain.len {P : Program} {N : Nat} {ops : List Oper} : ∀ {os : List Oper} {es : List Ef} {t : Slots} {h : AHeap}, EChain P N ops os es t h → es.length = os.length
  | [], [], _, _, _ => rfl
  | _ :: _, [], _, _, H => by simp [EChain] at H
  | [], _ :: _, _, _, H => by simp [EChain] at H
  | o :: os, e :: es, t, h, H => by simp [EChain.len H.2]

end Go.AM
