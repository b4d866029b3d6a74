/- Rows of rows of ints that the call owns. -/
import Derived.Test.YtmljoaiedihoiaaDoorAm24
namespace Go.AM
set_option linter.unusedVariables false
set_option linter.unusedSimpArgs false
open Go Go.RowKit
set_option linter.unusedSectionVars false
variable [Glob]

theorem keptB_of {F : AHeap} {L L' : List (Nat × Blk)} : ∀ {M : List (Nat × Blk)}, (∀ p ∈ M, hp F L p.1 = some p.2 ∧ convB (fun id => hp F L' id ≠ none) noA p.2 p.2) → keptB F L L' M
  | [], _ => trivial
  | q :: r, h => ⟨(h q (by simp)).1, (h q (by simp)).2, keptB_of fun p hp => h p (by simp [hp])⟩
theorem shed_of {F : AHeap} {L' : List (Nat × Blk)} : ∀ {M : List (Nat × Blk)}, (∀ p ∈ M, F p.1 = none ∨ p.1 ∈ L'.map (·.1)) → shed F L' M
  | [], _ => trivial
  | q :: r, h => ⟨h q (by simp), shed_of fun p hp => h p (by simp [hp])⟩

theorem weak_adopt_hp {N : Nat} {F : AHeap} {L L' : List (Nat × Blk)} {t t' : Slots} {id sz : Nat} {e : TypeId} (hn : hp F L id = none) (hi : hp F L' id = some (.row 0 e sz [])) (ht : convT (fun i => hp F L i ≠ none) (nilA id) t t')
    (hb : ∀ p ∈ L', p.1 ≠ id → ∃ k, hp F L p.1 = some k ∧ (p.2 = k ∨ convB (fun i => hp F L i ≠ none) (nilA id) k p.2)) (hL : ∀ p ∈ L, p.1 ∈ L'.map (·.1)) : Weak N F t (hp F L) t' (hp F L') := by
  refine weak_of_list (weak_adopt hn hi (convT_list ht) ?_ ?_)
  · intro i k' hne hk'
    rcases hp_mem hk' with ⟨p, hp', rfl, rfl⟩ | ⟨h1, h2⟩
    · exact hb p hp' hne
    · refine ⟨k', ?_, .inl rfl⟩
      rw [hp_ne fun p hp' e => ?_]
      · exact h1
      · subst e
        obtain ⟨q, hq, e⟩ := List.mem_map.1 (hL p hp')
        exact h2 q hq e
  · intro i hi'
    by_cases hF : F i = none
    · have : ∃ p ∈ L, p.1 = i := by
        cases hk : hp F L i with
        | none => exact absurd hk hi'
        | some k =>
          rcases hp_mem hk with ⟨p, hp', e, _⟩ | ⟨h1, _⟩
          · exact ⟨p, hp', e⟩
          · rw [hF] at h1; cases h1
      obtain ⟨p, hp', rfl⟩ := this
      obtain ⟨q, hq, e⟩ := List.mem_map.1 (hL p hp')
      exact hp_some (.inr ⟨q, hq, e⟩)
    · exact hp_some (.inl hF)

/-- The rows of ints number a + j, a + j + 1 .. -/
def nest (e : TypeId) (a : Nat) : List (List Int) → List (Nat × Blk)
  | [] => []
  | l :: r => (a, .row l.length e 1 (rints l)) :: nest e (a + 1) r
/-- The row that names them. -/
def rowE (a : Nat) : List (List Int) → List (List AV)
  | [] => []
  | l :: r => [.own a l.length 0 l.length] :: rowE (a + 1) r

theorem rowE_length (a : Nat) : ∀ (ls : List (List Int)), (rowE a ls).length = ls.length
  | [] => rfl
  | l :: r => by simp [rowE, rowE_length (a + 1) r]
theorem rowE_get {a : Nat} : ∀ {ls : List (List Int)} (j : Nat), (rowE a ls)[j]? = (ls[j]?).map fun l => [.own (a + j) l.length 0 l.length]
  | [], j => by simp [rowE]
  | l :: r, 0 => by simp [rowE]
  | l :: r, j + 1 => by simp only [rowE, List.getElem?_cons_succ]; rw [rowE_get j]; simp [Nat.add_assoc, Nat.add_comm 1 j]
theorem rowE_set {a : Nat} {x : List Int} : ∀ {ls : List (List Int)} (j : Nat), (rowE a ls).set j [.own (a + j) x.length 0 x.length] = rowE a (ls.set j x)
  | [], j => by simp [rowE]
  | l :: r, 0 => by simp [rowE]
  | l :: r, j + 1 => by simp only [rowE, List.set_cons_succ]; rw [← rowE_set (a := a + 1) j]; simp [Nat.add_assoc, Nat.add_comm 1 j]
theorem rowE_app {a : Nat} : ∀ {ls : List (List Int)}, rowE a (ls ++ [[]]) = rowE a ls ++ [[.own (a + ls.length) 0 0 0]]
  | [] => by simp [rowE]
  | l :: r => by simp only [rowE, List.cons_append]; rw [rowE_app]; simp [Nat.add_assoc, Nat.add_comm 1 r.length]

theorem nest_mem {e : TypeId} {a : Nat} : ∀ {ls : List (List Int)} {p : Nat × Blk}, p ∈ nest e a ls → ∃ j l, ls[j]? = some l ∧ p = (a + j, .row l.length e 1 (rints l))
  | [], p, h => by simp [nest] at h
  | l :: r, p, h => by
    simp only [nest, List.mem_cons] at h
    rcases h with rfl | h
    · exact ⟨0, l, rfl, rfl⟩
    · obtain ⟨j, l', h1, rfl⟩ := nest_mem h
      exact ⟨j + 1, l', by simpa using h1, by simp [Nat.add_assoc, Nat.add_comm 1 j]⟩
theorem nest_get {e : TypeId} {F : AHeap} {a : Nat} : ∀ {ls : List (List Int)} {j : Nat} {l : List Int}, ls[j]? = some l → hp F (nest e a ls) (a + j) = some (.row l.length e 1 (rints l))
  | [], j, l, h => by simp at h
  | x :: r, 0, l, h => by simp at h; subst h; simp [nest, hp]
  | x :: r, j + 1, l, h => by
    simp only [nest, hp]
    rw [if_neg (by omega), show a + (j + 1) = a + 1 + j by omega]
    exact nest_get (by simpa using h)
theorem nest_out {e : TypeId} {F : AHeap} {a : Nat} {ls : List (List Int)} {i : Nat} (h : i < a ∨ a + ls.length ≤ i) : hp F (nest e a ls) i = F i :=
  hp_ne fun p hp => by
    obtain ⟨j, l, h1, rfl⟩ := nest_mem hp
    have := (List.getElem?_eq_some_iff.1 h1).1
    simp only
    omega
theorem nest_key {e : TypeId} {a : Nat} {ls : List (List Int)} {j : Nat} {l : List Int} (h : ls[j]? = some l) : (a + j, Blk.row l.length e 1 (rints l)) ∈ nest e a ls := by
  induction ls generalizing a j with
  | nil => simp at h
  | cons x r ih =>
    cases j with
    | zero => simp at h; subst h; simp [nest]
    | succ j => simp only [nest, List.mem_cons]; right; have := ih (a := a + 1) (j := j) (by simpa using h); rwa [show a + 1 + j = a + (j + 1) by omega] at this

theorem convE_app {D : Nat → Prop} {A : AV → AV → Prop} : ∀ {xs ys us vs : List (List AV)}, convE D A xs ys → convE D A us vs → convE D A (xs ++ us) (ys ++ vs)
  | [], [], _, _, _, h => h
  | x :: xs, y :: ys, _, _, h, k => by simp only [List.cons_append, convE] at h ⊢; exact ⟨h.1, convE_app h.2 k⟩
  | [], _ :: _, _, _, h, _ => by simp [convE] at h
  | _ :: _, [], _, _, h, _ => by simp [convE] at h

theorem convL_ps {D : Nat → Prop} {A : AV → AV → Prop} : ∀ (l : List PV), convL D A (l.map AV.p) (l.map AV.p)
  | [] => by simp [convL]
  | x :: l => by simp only [List.map_cons, convL]; exact ⟨by simp [conv], convL_ps l⟩
theorem convE_ps {D : Nat → Prop} {A : AV → AV → Prop} : ∀ (es : List (List PV)), convE D A (pcells es) (pcells es)
  | [] => by simp [pcells, convE]
  | e :: es => by
    have := convE_ps (D := D) (A := A) es
    simp only [pcells, List.map_cons, convE] at this ⊢
    exact ⟨convL_ps e, this⟩
theorem convE_rowE {D : Nat → Prop} {A : AV → AV → Prop} : ∀ (ls : List (List Int)) (a : Nat), (∀ j, j < ls.length → D (a + j)) → convE D A (rowE a ls) (rowE a ls)
  | [], _, _ => by simp [rowE, convE]
  | l :: r, a, h => by
    simp only [rowE, convE, convL, conv]
    exact ⟨⟨.inr (.inr ⟨trivial, by simpa using h 0 (by simp)⟩), trivial⟩, convE_rowE r (a + 1) fun j hj => by rw [show a + 1 + j = a + (j + 1) by omega]; exact h (j + 1) (by simp; omega)⟩

theorem frz_nest {F : AHeap} {r v m : Nat} {e ti : TypeId} (hr : F r = none) : ∀ (ls : List (List Int)) (a : Nat) (pre : List (List PV)), r < a → (∀ j, j < ls.length → F (a + j) = none) →
    WeakL F [.agg [.own r v 0 m]] (hp F ((r, .row v e 1 (pcells pre ++ rowE a ls)) :: nest ti a ls)) [.agg [.own r v 0 m]] (hp F [(r, .row v e 1 (pcells (pre ++ ls.map fun l => [.sl 1 (ints l)])))])
  | [], a, pre, _, _ => by simpa [rowE, nest] using WeakL.refl _ _ _
  | l :: rest, a, pre, ha, hF => by
    have ih := frz_nest (F := F) (v := v) (m := m) (e := e) (ti := ti) hr rest (a + 1) (pre ++ [[.sl 1 (ints l)]]) (by omega) fun j hj => by rw [show a + 1 + j = a + (j + 1) by omega]; exact hF (j + 1) (by simp; omega)
    have e1 : pre ++ [[PV.sl 1 (ints l)]] ++ rest.map (fun l => [PV.sl 1 (ints l)]) = pre ++ (l :: rest).map (fun l => [PV.sl 1 (ints l)]) := by simp
    rw [e1] at ih
    refine WeakL.trans ?_ ih
    have hFa : F a = none := by simpa using hF 0 (by simp)
    refine weakL_freeze (id := a) (ver := l.length) (sz := 1) (e := ti) (es := ints l) ?_ ?_ ?_ ?_ ?_
    · simp only [nest, hp]; rw [if_neg (by omega)]; simp
    · simp [convL, conv, hp]
    · simp only [hp]; rw [if_neg (by omega), nest_out (.inl (by omega))]; exact hFa
    · intro q hq
      simp only [List.mem_cons] at hq
      rcases hq with rfl | hq
      · refine ⟨.row v e 1 (pcells pre ++ rowE a (l :: rest)), by simp [hp], rfl, rfl, rfl, ?_⟩
        have e2 : pcells (pre ++ [[PV.sl 1 (ints l)]]) ++ rowE (a + 1) rest = pcells pre ++ ([.p (.sl 1 (ints l))] :: rowE (a + 1) rest) := by simp [pcells]
        rw [e2]
        refine convE_app (convE_ps pre) ?_
        simp only [rowE, convE, convL, conv, frzA_own]
        refine ⟨⟨.inr (.inl ⟨trivial, trivial, by rw [List.drop_zero, List.take_of_length_le (by simp)]⟩), trivial⟩, convE_rowE rest (a + 1) fun j hj => ?_⟩
        simp only [hp]
        rw [if_neg (by omega)]
        obtain ⟨x, hx⟩ := get_lt hj
        rw [nest_get hx]
        simp
      · obtain ⟨j, x, hx, rfl⟩ := nest_mem hq
        refine ⟨.row x.length ti 1 (rints x), ?_, rfl, rfl, rfl, convE_ps _⟩
        simp only [nest, hp]
        rw [if_neg (by omega), if_neg (by omega)]
        exact nest_get hx
    · refine shed_of fun q hq => .inl ?_
      simp only [List.mem_cons] at hq
      rcases hq with rfl | hq
      · exact hr
      · obtain ⟨j, x, hx, rfl⟩ := nest_mem hq
        exact hF j (List.getElem?_eq_some_iff.1 hx).1

/-- The end: a row of rows. -/
theorem end_nest {P : Program} {F : AHeap} {t : Slots} {L : Locs} {n : Nat} {rs : List ResultVar} {R : AV → AHeap → Prop} {r v a : Nat} {e ti : TypeId} {ls : List (List Int)} (hres : Is (ares P t (hp F L) rs) (some (.agg [.own r v 0 ls.length])))
    (hk : hp F L r = some (.row v e 1 (rowE a ls))) (hN : ∀ j l, ls[j]? = some l → hp F L (a + j) = some (.row l.length ti 1 (rints l))) (hr : F r = none) (ha : r < a) (hF : ∀ j, j < ls.length → F (a + j) = none) (hs : shed F [] L)
    (H : R (.agg [.p (.sl 1 (ls.map fun l => [.sl 1 (ints l)]))]) F) : send P F rs R .ret t L n := by
  refine end_ret hres (fun _ => ?_) H
  refine WeakL.trans (weakL_cut (L' := (r, .row v e 1 (pcells [] ++ rowE a ls)) :: nest ti a ls) (ys := [.agg [.own r v 0 ls.length]]) ?_ ?_ ?_) (WeakL.trans (frz_nest hr ls a [] ha hF) ?_)
  · simp [convL, conv, hp]
  · refine keptB_of fun q hq => ?_
    simp only [List.mem_cons] at hq
    rcases hq with rfl | hq
    · refine ⟨by simpa [pcells] using hk, rfl, rfl, rfl, ?_⟩
      simp only [pcells, List.map_nil, List.nil_append]
      refine convE_rowE ls a fun j hj => ?_
      simp only [hp]
      rw [if_neg (by omega)]
      obtain ⟨x, hx⟩ := get_lt hj
      rw [nest_get hx]
      simp
    · obtain ⟨j, x, hx, rfl⟩ := nest_mem hq
      exact ⟨hN j x hx, rfl, rfl, rfl, convE_ps _⟩
  · exact shed_of fun q hq => by
      rcases shed_mem hs q hq with h | h
      · exact .inl h
      · simp at h
  · refine weakL_freeze (L' := []) (id := r) (ver := v) (sz := 1) (e := e) (es := ls.map fun l => [.sl 1 (ints l)]) (by simp [hp]) ?_ hr (by simp) (by simp [shed, hr])
    simp only [convL, conv]
    refine ⟨.inr ⟨_, rfl, .inr (.inl ⟨0, ls.length, rfl, ?_⟩), trivial⟩, trivial⟩
    rw [List.drop_zero, List.take_of_length_le (by simp)]

/-- A cut at a row of rows. -/
theorem kept_nest {F : AHeap} {L fx : List (Nat × Blk)} {ls : List (List Int)} {a : Nat} {ti : TypeId} (h1 : ∀ p ∈ fx, hp F L p.1 = some p.2 ∧ convB (fun id => hp F (fx ++ nest ti a ls) id ≠ none) noA p.2 p.2)
    (hN : ∀ j l, ls[j]? = some l → hp F L (a + j) = some (.row l.length ti 1 (rints l))) : keptB F L (fx ++ nest ti a ls) (fx ++ nest ti a ls) := by
  refine keptB_of fun q hq => ?_
  simp only [List.mem_append] at hq
  rcases hq with hq | hq
  · exact h1 q hq
  · obtain ⟨j, x, hx, rfl⟩ := nest_mem hq
    exact ⟨hN j x hx, rfl, rfl, rfl, convE_ps _⟩

end Go.AM
