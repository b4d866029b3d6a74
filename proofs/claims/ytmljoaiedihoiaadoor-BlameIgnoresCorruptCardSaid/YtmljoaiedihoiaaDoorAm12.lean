/- Structs and slices that are built; one operation as a function. -/
import Derived.Test.YtmljoaiedihoiaaDoorAm11
namespace Go.AM
set_option linter.unusedVariables false
set_option linter.unusedSimpArgs false
open Go Go.RowKit
set_option linter.unusedSectionVars false
variable [Glob]

def afill (place : Nat → Option (Nat × Nat)) (cells : List AV) : List (Nat × AV) → Option (List AV)
  | [] => some cells
  | (i, v) :: rest =>
    match place i with
    | none => none
    | some (off, size) => if (cellsOf v).length = size ∧ off + size ≤ cells.length ∧ (cellsOf v).all AV.one = true then afill place (splice cells off (cellsOf v)) rest else none

theorem foldl_fill (off : Nat) : ∀ (l : List Value) (j : Nat) (cells : Array Value), off + j + l.length ≤ cells.size →
    ((l.zipIdx j).foldl (fun cs (x : Value × Nat) => cs.setIfInBounds (off + x.2) x.1) cells).toList = splice cells.toList (off + j) l
  | [], j, cells, _ => by simp [splice]
  | v :: l, j, cells, h => by
    simp only [List.zipIdx_cons, List.foldl_cons, List.length_cons] at h ⊢
    rw [foldl_fill off l (j + 1) _ (by simp; omega)]
    have hlen : cells.toList.length = cells.size := Array.length_toList
    simp only [splice, Array.toList_setIfInBounds, List.length_cons]
    generalize cells.toList = L at *
    have h1 : (L.set (off + j) v).take (off + (j + 1)) = L.take (off + j) ++ [v] := by
      rw [show off + (j + 1) = off + j + 1 by omega, List.take_add_one, List.take_set_of_le (by omega)]
      rw [List.getElem?_set_self (by omega)]; rfl
    rw [h1, List.drop_set_of_lt (by omega), List.append_assoc]
    simp only [List.singleton_append, List.cons_append]
    rw [show off + (j + 1) + l.length = off + j + (l.length + 1) by omega, List.nil_append]

theorem RelL.splice {G : Gh} {xs ys : List AV} {vs us : List Value} (h : RelL G xs vs) (k : RelL G ys us) (o : Nat) : RelL G (AM.splice xs o ys) (AM.splice vs o us) := by
  unfold AM.splice
  rw [k.length]
  exact RelL.append (RelL.take _ h) (RelL.append k (RelL.drop _ h))

theorem afill_rel {G : Gh} {place : Nat → Option (Nat × Nat)} : ∀ {parts : List (Nat × AV)} {cells out : List AV} {cv : Array Value} {vparts : List (Nat × Value)}, afill place cells parts = some out → RelL G cells cv.toList →
    RelL G (parts.map (·.2)) (vparts.map (·.2)) → parts.map (·.1) = vparts.map (·.1) → ∃ o : Array Value, Instr.fill place cv vparts = some o ∧ RelL G out o.toList
  | [], _, _, cv, [], h, hc, _, _ => by simp only [afill] at h; cases h; exact ⟨cv, rfl, hc⟩
  | [], _, _, _, _ :: _, _, _, _, h => by simp at h
  | _ :: _, _, _, _, [], _, _, _, h => by simp at h
  | (i, x) :: parts, cells, out, cv, (i', y) :: vparts, h, hc, hr, hi => by
    simp only [List.map_cons, List.cons.injEq] at hi
    obtain ⟨rfl, hi⟩ := hi
    simp only [List.map_cons, RelL] at hr
    simp only [afill] at h
    cases hp : place i with
    | none => rw [hp] at h; cases h
    | some q =>
      obtain ⟨off, size⟩ := q
      rw [hp] at h
      simp only at h
      split at h
      · rename_i hq
        obtain ⟨q1, q2, q3⟩ := hq
        have hone : ∀ c ∈ cellsOf x, c.one = true := by simpa using q3
        have rx := cellsOf_rel hone hr.1
        have hl := rx.length
        have hcl := hc.length
        have hsz : y.cells.size = size := by rw [← Array.length_toList]; omega
        have hcs : cv.size = cells.length := by rw [← Array.length_toList]; omega
        have hfold : (y.cells.zipIdx.foldl (fun cs (x : Value × Nat) => cs.setIfInBounds (off + x.2) x.1) cv).toList = AM.splice cv.toList off y.cells.toList := by
          rw [← Array.foldl_toList, Array.toList_zipIdx]
          have := foldl_fill off y.cells.toList 0 cv (by simp; omega)
          simpa using this
        obtain ⟨o, ho, hro⟩ := afill_rel (cv := y.cells.zipIdx.foldl (fun cs (x : Value × Nat) => cs.setIfInBounds (off + x.2) x.1) cv) h (by rw [hfold]; exact RelL.splice hc rx off) hr.2 hi
        refine ⟨o, ?_, hro⟩
        simp only [Instr.fill, hp]
        rw [if_neg (by simp; omega)]
        exact ho
      · cases h

def abuild (P : Program) (t : TypeId) (parts : List (Nat × AV)) : Option AV :=
  match tZero P t, tStruct P t with
  | some zs, some pl => if zs.all Value.oneCell' = true then (afill (pl[·]?) (pv zs) parts).map AV.agg else none
  | _, _ => none

theorem run_places {P : Program} {w : World} : ∀ {fs : List Field} {l : List (Nat × Nat)}, (fs.mapM fun x => (P.info? x.type).map fun i => (x.offset, i.size)) = some l →
    (fs.mapM fun f => (do pure (f.offset, ← sizeOf f.type) : Sem (Nat × Nat))).run P w = .ok l w
  | [], l, h => by simp at h; subst h; simp
  | f :: fs, l, h => by
    rw [List.mapM_cons] at h
    cases hi : P.info? f.type with
    | none => simp [hi] at h
    | some i =>
      simp only [hi, Option.map_some, Option.bind_eq_bind, Option.bind_some] at h
      cases hm : (fs.mapM fun x => (P.info? x.type).map fun i => (x.offset, i.size)) with
      | none => simp [hm] at h
      | some l' =>
        simp [hm] at h
        subst h
        have ih := run_places (w := w) hm
        rw [List.mapM_cons, Sem.run_bind]
        have : (do pure (f.offset, ← sizeOf f.type) : Sem (Nat × Nat)).run P w = .ok (f.offset, i.size) w := by simp [sizeOf, typeInfo, hi]
        rw [this, Result.andThen_ok, Sem.run_bind, ih, Result.andThen_ok]
        rfl

theorem abuild_rel {P : Program} {G : Gh} {w : World} {t : TypeId} {parts : List (Nat × AV)} {v : AV} (h : abuild P t parts = some v) {vparts : List (Nat × Value)} (hr : RelL G (parts.map (·.2)) (vparts.map (·.2)))
    (hi : parts.map (·.1) = vparts.map (·.1)) : ∃ u, (Instr.build t vparts.toArray).run P w = .ok u w ∧ Rel G v u := by
  unfold abuild at h
  cases hz : tZero P t with
  | none => rw [hz] at h; simp at h
  | some zs =>
    cases hs : tStruct P t with
    | none => rw [hz, hs] at h; simp at h
    | some pl =>
      rw [hz, hs] at h
      simp only at h
      split at h
      · rw [Option.map_eq_some_iff] at h
        obtain ⟨out, ho, rfl⟩ := h
        unfold tZero at hz
        cases hinf : P.info? t with
        | none => simp [hinf] at hz
        | some inf =>
          cases hzz : inf.zero with
          | none => simp [hinf, hzz] at hz
          | some z =>
            simp [hinf, hzz] at hz
            subst hz
            unfold tStruct at hs
            cases hd : P.underlying t with
            | none => simp [hd] at hs
            | some d =>
              cases d with
              | struct fs =>
                simp only [hd] at hs
                obtain ⟨o, hfill, hro⟩ := afill_rel (cv := z.cells) (vparts := vparts) ho (pv_rel z.cells.toList) hr hi
                refine ⟨.agg o, ?_, by simp only [Rel]; exact ⟨o, rfl, hro⟩⟩
                have hpl := run_places (w := w) hs
                have hmm : (fs.mapM fun f => (do pure (f.offset, ← sizeOf f.type) : Sem (Nat × Nat))).run P w = .ok pl.toArray w := by
                  rw [Array.mapM_eq_mapM_toList, Sem.run_map, hpl]; rfl
                have hplace : (fun i : Nat => pl.toArray[i]?) = (fun i : Nat => pl[i]?) := by funext i; simp
                simp only [Instr.build, zeroValue, typeInfo, Sem.run_bind, run_program, Result.andThen_ok, hinf, Sem.run_pure, hzz, run_underlying hd, hmm, hplace, hfill]
              | _ => simp [hd] at hs
      · cases h

end Go.AM
