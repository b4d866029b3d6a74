/- Stores, new blocks, rows that grow. -/
import Derived.Test.YtmljoaiedihoiaaDoorAm6
namespace Go.AM
set_option linter.unusedVariables false
set_option linter.unusedSimpArgs false
open Go Go.RowKit
set_option linter.unusedSectionVars false
variable [Glob]

def cellsOf : AV → List AV
  | .agg cs => cs
  | x => [x]

theorem cellsOf_rel {G : Gh} {x : AV} {y : Value} (h1 : ∀ c ∈ cellsOf x, c.one = true) (r : Rel G x y) : RelL G (cellsOf x) y.cells.toList := by
  cases x with
  | agg cs =>
    simp only [Rel] at r
    obtain ⟨vs, rfl, h⟩ := r
    simpa [cellsOf, Value.cells] using h
  | _ =>
    have hy := AV.one_rel (h1 _ (by simp [cellsOf])) r
    have : y.cells = #[y] := by cases y <;> simp [Value.oneCell'] at hy <;> rfl
    rw [this]
    simp only [cellsOf, RelL]
    exact ⟨r, trivial⟩

theorem RelL.one {G : Gh} : ∀ {xs : List AV} {ys : List Value}, RelL G xs ys → (∀ x ∈ xs, x.one = true) → ∀ y ∈ ys, y.oneCell' = true
  | [], [], _, _, _, h => by cases h
  | x :: xs, y :: ys, r, h, z, hz => by
    simp only [RelL] at r
    cases hz with
    | head => exact AV.one_rel (h x (by simp)) r.1
    | tail _ hz => exact RelL.one r.2 (fun x hx => h x (by simp [hx])) z hz
  | [], _ :: _, r, _, _, _ => by simp [RelL] at r
  | _ :: _, [], r, _, _, _ => by simp [RelL] at r

theorem ownsRow_splice {w : World} {base g n cap sz : Nat} {e : TypeId} {xs : List Value} (h : w.ownsRow base e sz (.slice (some ⟨g, 0, none⟩) n cap) n xs) (o : Nat) (vs : List Value) (ho : o + vs.length ≤ n * sz) :
    ∃ cur : Array Value, w.heap[g]? = some (.cells cur e (0, 0)) ∧ n * sz ≤ cur.size ∧
      (w.setRow g (cur.toList.take o ++ vs ++ cur.toList.drop (o + vs.length)).toArray).ownsRow base e sz (.slice (some ⟨g, 0, none⟩) n cap) n (splice xs o vs) ∧
      w.grownBy (w.setRow g (cur.toList.take o ++ vs ++ cur.toList.drop (o + vs.length)).toArray) (some g) := by
  obtain ⟨hl, h2⟩ := h
  rcases h2 with ⟨h', _⟩ | ⟨g', cap', cur, h', hb, hg, hnc, hcm, hcs, htake⟩
  · simp at h'
  · simp only [Value.slice.injEq, Option.some.injEq, Addr.mk.injEq, and_true, true_and] at h'
    obtain ⟨rfl, rfl⟩ := h'
    have hcur : n * sz ≤ cur.size := by rw [hcs]; exact Nat.mul_le_mul_right _ hnc
    refine ⟨cur, hg, hcur, ⟨?_, .inr ⟨g, cap, _, rfl, hb, setRow_heap w g cur _ e _ hg, hnc, hcm, ?_, ?_⟩⟩, ⟨rfl, rfl, rfl, by simp, fun k _ hk => setRow_other w g k _ (fun e => hk (by simp [e]))⟩⟩
    · simp only [splice, List.length_append, List.length_take, List.length_drop]; omega
    · simp only [List.size_toArray, List.length_append, List.length_take, List.length_drop, Array.length_toList]; omega
    · simp only [splice]
      rw [← htake]
      have hlc : cur.toList.length = cur.size := Array.length_toList
      generalize cur.toList = L at *
      have h1 : (L.take o).length = o := by rw [List.length_take]; omega
      rw [List.append_assoc, List.take_append, h1, List.take_of_length_le (l := L.take o) (by omega), List.take_append, List.take_of_length_le (l := vs) (by omega), List.take_take, List.drop_take]
      rw [Nat.min_eq_left (by omega)]
      congr 3
      omega

/-- A store of a type. -/
def astore (P : Program) (h : AHeap) (t : TypeId) (x v : AV) : Option (Nat × Blk × Blk) :=
  match tAgg P t with
  | some (_, n) =>
    match x with
    | .ptr id ver i j =>
      match h id with
      | some (.row ver' e sz es) =>
        if ver' = ver then
          match es[i]? with
          | some c => if (cellsOf v).length = n ∧ j + n ≤ c.length ∧ (cellsOf v).all AV.one = true then some (id, .row ver' e sz es, .row ver' e sz (es.set i (splice c j (cellsOf v)))) else none
          | none => none
        else none
      | none => none
    | _ => none
  | none => none

theorem astore_rel {P : Program} {G : Gh} {h : AHeap} {w : World} (H : HRel G h w) {t : TypeId} {x v : AV} {id : Nat} {k k' : Blk} (hs : astore P h t x v = some (id, k, k')) {y u : Value} (r : Rel G x y) (ru : Rel G v u) :
    h id = some k ∧ ∃ w', (Instr.storeAt t y u).run P w = .ok () w' ∧ HRel G (hp h [(id, k')]) w' := by
  unfold astore at hs
  cases ht : tAgg P t with
  | none => rw [ht] at hs; cases hs
  | some q =>
    obtain ⟨ag, n⟩ := q
    rw [ht] at hs
    simp only at hs
    cases x with
    | ptr id' ver i j =>
      simp only at hs
      cases hk : h id' with
      | none => rw [hk] at hs; cases hs
      | some kk =>
        cases kk with
        | row ver' e sz es =>
          rw [hk] at hs
          simp only at hs
          by_cases hv : ver' = ver
          · rw [if_pos hv] at hs
            subst hv
            cases hi : es[i]? with
            | none => rw [hi] at hs; cases hs
            | some c =>
              rw [hi] at hs
              simp only at hs
              by_cases hc : (cellsOf v).length = n ∧ j + n ≤ c.length ∧ (cellsOf v).all AV.one = true
              · rw [if_pos hc] at hs
                cases hs
                obtain ⟨c1, c2, c3⟩ := hc
                have hone : ∀ c ∈ cellsOf v, c.one = true := by simpa using c3
                have rl := cellsOf_rel hone ru
                have hul := rl.length
                simp only [Rel] at r
                obtain ⟨g, n0, cap, sz', hl, rfl⟩ := r
                obtain ⟨v1, xs, l1, o1, r1, s1, on1, m1⟩ := H.blk id _ hk
                rw [hl] at l1
                cases l1
                have hn0 : n0 = es.length := by rcases o1.2 with ⟨e1, _⟩ | ⟨_, _, _, e1, _⟩ <;> cases e1; rfl
                subst hn0
                have hcl := s1 c (List.mem_of_getElem? hi)
                have hil : i < es.length := (List.getElem?_eq_some_iff.1 hi).1
                have hmul : i * sz + sz ≤ es.length * sz := by rw [← Nat.succ_mul]; exact Nat.mul_le_mul_right _ hil
                obtain ⟨cur, hg, hcur, how, hgr⟩ := ownsRow_splice o1 (i * sz + j) u.cells.toList (by omega)
                obtain ⟨_, hsz⟩ := run_isAgg ht w
                have hst := run_storeCells_at P g (i * sz + j) e u.cells.toList 0 cur w hg (by omega) (RelL.one rl hone)
                simp only [Nat.add_zero] at hst
                have hsize : u.cells.size = n := by rw [← Array.length_toList]; omega
                have key : (Instr.storeAt t (.pointer (some ⟨g, i * sz + j, none⟩)) u).run P w = (storeCells ⟨g, i * sz + j, none⟩ u.cells.toList).run P w := by
                  simp [Instr.storeAt, Instr.sureAddr, storeVar, hsz, hsize]
                refine ⟨hk, _, key.trans hst, ?_⟩
                · refine HRel.upd H (.refl G) rfl (fun i ver x h => .inl h) hgr ?_ ?_ ?_ (fun v hv => H.top id _ v hk hv)
                  · intro g' e'
                    cases e'
                    refine ⟨?_, m1 g rfl, fun i2 l hne hl2 h2 => ?_⟩
                    · rcases o1.2 with ⟨e1, _⟩ | ⟨_, _, _, e1, hb, _⟩ <;> cases e1; exact hb
                    · exact H.sep id i2 _ l g (fun e => hne e.symm) hk hl2 (by simp [cbOf, hl, Value.ownBlock]) h2
                  · have hlen : (splice c j (cellsOf v)).length = sz := by simp only [splice, List.length_append, List.length_take, List.length_drop]; omega
                    refine ⟨_, _, hl, by rw [List.length_set]; exact how, ?_, ?_, ?_, m1⟩
                    · rw [flatten_set s1 hi hlen]
                      have hfl := flatten_len s1
                      have hcc : (es.flatten.drop (i * sz)).take c.length = c := by
                        have := flatten_at s1 hi 0 c.length (by omega)
                        simpa using this
                      rw [splice_splice es.flatten c (i * sz) j (cellsOf v) hcc (by omega) (by omega)]
                      unfold splice
                      rw [hul]
                      exact RelL.append (RelL.take _ r1) (RelL.append rl (RelL.drop _ r1))
                    · intro z hz
                      rcases List.mem_or_eq_of_mem_set hz with h | rfl
                      · exact s1 z h
                      · exact hlen
                    · intro z hz
                      unfold splice at hz
                      simp only [List.mem_append] at hz
                      rcases hz with h | h | h
                      · exact on1 z (List.mem_of_mem_take h)
                      · exact RelL.one rl hone z h
                      · exact on1 z (List.mem_of_mem_drop h)
                  · intro g' e'
                    simp [cbOf, hl, Value.ownBlock] at e'
                    exact .inl (by rw [e'])
              · rw [if_neg hc] at hs; cases hs
          · rw [if_neg hv] at hs; cases hs
    | _ => simp at hs

/-- A new block with one element. -/
theorem new_one {P : Program} {G : Gh} {h : AHeap} {w : World} (H : HRel G h w) {nm : Nat} (hn : h nm = none) (e : TypeId) {cs : List AV} {u : Value} (hr : RelL G cs u.cells.toList) (hone : ∀ c ∈ cs, c.one = true) :
    ∃ G' w', (newVar e u).run P w = .ok ⟨w.heap.size, 0, none⟩ w' ∧ G.Le G' ∧ HRel G' (hp h [(nm, .row 0 e cs.length [cs])]) w' ∧ Rel G' (.ptr nm 0 0 0) (.pointer (some ⟨w.heap.size, 0, none⟩)) := by
  let G' : Gh := { M := G.M, loc := fun i ver => if i = nm ∧ ver = 0 then some (.slice (some ⟨w.heap.size, 0, none⟩) 1 1, cs.length) else G.loc i ver, w0 := G.w0 }
  have hnot : ∀ i ver x, G.loc i ver = some x → i ≠ nm := fun i ver x h e => H.dom i ver x h (e ▸ hn)
  have hle : G.Le G' := ⟨fun _ _ _ h => h, fun i ver x h => by
    show (if i = nm ∧ ver = 0 then _ else _) = _
    rw [if_neg (fun e => hnot i ver x h e.1)]; exact h, rfl⟩
  have hloc : G'.loc nm 0 = some (.slice (some ⟨w.heap.size, 0, none⟩) 1 1, cs.length) := by
    show (if nm = nm ∧ 0 = 0 then _ else _) = _
    simp
  have hlen := hr.length
  have hsz : u.cells.size = 1 * cs.length := by rw [← Array.length_toList]; omega
  refine ⟨G', w.alloc (.cells u.cells e), by simp [newVar, newRow], hle, ?_, ?_⟩
  · refine HRel.upd (row := none) H hle rfl (fun i ver x hx => ?_) (World.grownBy_alloc w _ none) (fun g e => by cases e) ?_ ?_ (fun v hv => ?_)
    rotate_left 3
    · show (if nm = nm ∧ v = 0 then _ else G.loc nm v) = none
      rw [if_neg (by simp only [Blk.ver] at hv; omega)]
      cases hg : G.loc nm v with
      | none => rfl
      | some x => exact absurd rfl (hnot nm v x hg)
    · by_cases e : i = nm ∧ ver = 0
      · exact .inr e.1
      · have : (if i = nm ∧ ver = 0 then _ else G.loc i ver) = some x := hx
        rw [if_neg e] at this; exact .inl this
    · refine ⟨_, u.cells.toList, hloc, ?_, by simpa using RelL.mono hle hr, by simp, RelL.one hr hone, ?_⟩
      · exact World.ownsRow_lit w u.cells 1 H.below.size (by simp [maxLen]) hsz
      · intro g hg o
        simp [Value.ownBlock] at hg
        subst hg
        cases hM : G.M w.heap.size o with
        | none => rfl
        | some v => have := World.block_lt_of_cell? w _ (H.imm _ _ _ hM).1; simp at this
    · intro g hg
      simp [cbOf, hloc, Value.ownBlock] at hg
      exact .inr (by omega)
  · simp only [Rel]
    exact ⟨w.heap.size, 1, 1, cs.length, hloc, by simp⟩

end Go.AM
