/- Rows: made, built, appended to, copied into. -/
import Derived.Test.YtmljoaiedihoiaaDoorAm7
namespace Go.AM
set_option linter.unusedVariables false
set_option linter.unusedSimpArgs false
open Go Go.RowKit
set_option linter.unusedSectionVars false
variable [Glob]

/-- A slice type's elements: type, cells, bytes, the zero's cells. -/
def tElem (P : Program) (t : TypeId) : Option (TypeId × Nat × Nat × List Value) :=
  match P.underlying t with
  | some (.slice e) => (P.info? e).bind fun i => i.zero.map fun z => (e, i.size, i.bytes, z.cells.toList)
  | _ => none

theorem tElem_parts {P : Program} {t e : TypeId} {sz by_ : Nat} {zs : List Value} (h : tElem P t = some (e, sz, by_, zs)) :
    ∃ i z, P.underlying t = some (.slice e) ∧ P.info? e = some i ∧ i.zero = some z ∧ i.size = sz ∧ i.bytes = by_ ∧ z.cells.toList = zs := by
  unfold tElem at h
  cases hd : P.underlying t with
  | none => simp [hd] at h
  | some d =>
    cases d with
    | slice e' =>
      simp only [hd] at h
      cases hi : P.info? e' with
      | none => simp [hi] at h
      | some i =>
        cases hz : i.zero with
        | none => simp [hi, hz] at h
        | some z =>
          simp [hi, hz] at h
          obtain ⟨rfl, rfl, rfl, rfl⟩ := h
          exact ⟨i, z, rfl, hi, hz, rfl, rfl, rfl⟩
    | _ => simp [hd] at h

/-- A new row. -/
theorem new_row {G : Gh} {h : AHeap} {w w' : World} (H : HRel G h w) {nm : Nat} (hn : h nm = none) {e : TypeId} {sz n cap : Nat} {xs : List Value} {es : List (List AV)} (hg : w.grownBy w' none)
    (ho : w'.ownsRow G.w0.heap.size e sz (.slice (some ⟨w.heap.size, 0, none⟩) n cap) n xs) (hr : RelL G es.flatten xs) (hs : ∀ x ∈ es, x.length = sz) (hl : es.length = n) (hone : ∀ x ∈ xs, x.oneCell' = true) :
    ∃ G', G.Le G' ∧ HRel G' (hp h [(nm, .row 0 e sz es)]) w' ∧ Rel G' (.own nm 0 0 n) (.slice (some ⟨w.heap.size, 0, none⟩) n cap) := by
  let G' : Gh := { M := G.M, loc := fun i ver => if i = nm ∧ ver = 0 then some (.slice (some ⟨w.heap.size, 0, none⟩) n cap, sz) else G.loc i ver, w0 := G.w0 }
  have hnot : ∀ i ver x, G.loc i ver = some x → i ≠ nm := fun i ver x h e => H.dom i ver x h (e ▸ hn)
  have hle : G.Le G' := ⟨fun _ _ _ h => h, fun i ver x h => by
    show (if i = nm ∧ ver = 0 then _ else _) = _
    rw [if_neg (fun e => hnot i ver x h e.1)]; exact h, rfl⟩
  have hloc : G'.loc nm 0 = some (.slice (some ⟨w.heap.size, 0, none⟩) n cap, sz) := by
    show (if nm = nm ∧ 0 = 0 then _ else _) = _
    simp
  have hnc : n ≤ cap := by rcases ho.2 with ⟨e1, _⟩ | ⟨_, _, _, e1, _, _, h, _⟩ <;> cases e1; exact h
  refine ⟨G', hle, ?_, ?_⟩
  · refine HRel.upd (row := none) H hle rfl (fun i ver x hx => ?_) hg (fun g e => by cases e) ?_ ?_ (fun v hv => ?_)
    rotate_left 3
    · show (if nm = nm ∧ v = 0 then _ else G.loc nm v) = none
      rw [if_neg (by simp only [Blk.ver] at hv; omega)]
      cases hg : G.loc nm v with
      | none => rfl
      | some x => exact absurd rfl (hnot nm v x hg)
    · by_cases e : i = nm ∧ ver = 0
      · exact .inr e.1
      · have : (if i = nm ∧ ver = 0 then _ else G.loc i ver) = some x := hx
        rw [if_neg e] at this; exact .inl this
    · refine ⟨_, xs, hloc, by rw [hl]; exact ho, RelL.mono hle hr, hs, hone, ?_⟩
      intro g hg' o
      simp [Value.ownBlock] at hg'
      subst hg'
      cases hM : G.M w.heap.size o with
      | none => rfl
      | some v => have := World.block_lt_of_cell? w _ (H.imm _ _ _ hM).1; simp at this
    · intro g hg'
      simp [cbOf, hloc, Value.ownBlock] at hg'
      exact .inr (by omega)
  · simp only [Rel]
    exact ⟨some ⟨w.heap.size, 0, none⟩, n, cap, sz, some ⟨w.heap.size, 0, none⟩, hloc, by omega, hnc, by simp, by simp, by simp⟩

theorem pv_rel {G : Gh} : ∀ (vs : List Value), RelL G (vs.map fun v => AV.p (.v v)) vs
  | [] => by simp [RelL]
  | v :: vs => by simp only [List.map_cons, RelL]; exact ⟨by simp [Rel, PRel], pv_rel vs⟩

theorem toList_madeCells (z : List Value) (n : Nat) : (madeCells z.toArray (n * z.length)).toList = (List.replicate n z).flatten := by
  induction n with
  | zero => simp [madeCells]
  | succ n ih =>
    apply List.ext_getElem?
    intro j
    by_cases hz : z = []
    · subst hz; simp [madeCells]
    have hpos : 0 < z.length := List.length_pos_iff.2 hz
    rw [List.replicate_succ, List.flatten_cons]
    by_cases hj : j < z.length
    · rw [List.getElem?_append_left hj]
      have : j < (n + 1) * z.length := by rw [Nat.succ_mul]; omega
      simp [madeCells, this, Nat.mod_eq_of_lt hj, hj]
    · rw [List.getElem?_append_right (by omega), ← ih]
      by_cases h2 : j < (n + 1) * z.length
      · have h3 : j - z.length < n * z.length := by rw [Nat.succ_mul] at h2; omega
        have h4 : (j - z.length) % z.length = j % z.length := by
          conv => rhs; rw [show j = (j - z.length) + z.length by omega]
          rw [Nat.add_mod_right]
        simp [madeCells, h2, h3, h4]
      · have h3 : ¬ (j - z.length < n * z.length) := by rw [Nat.succ_mul] at h2; omega
        simp [madeCells, h2, h3]

/-- make([]T, n). -/
theorem make_rel {P : Program} {G : Gh} {h : AHeap} {w : World} (H : HRel G h w) {nm : Nat} (hn : h nm = none) {t e : TypeId} {sz by_ : Nat} {zs : List Value} (ht : tElem P t = some (e, sz, by_, zs))
    (hz : zs.length = sz) (hone : zs.all Value.oneCell' = true) (kl kc : IntKind) (n : Nat) (h1 : by_ ≤ 1000) (h2 : n < 4294967296) :
    ∃ u G' w', (Instr.makeSlice t (.int kl (n : Int)) (.int kc (n : Int))).run P w = .ok u w' ∧ G.Le G' ∧ HRel G' (hp h [(nm, .row 0 e sz (List.replicate n (zs.map fun v => AV.p (.v v))))]) w' ∧ Rel G' (.own nm 0 0 n) u := by
  obtain ⟨i, z, ht', hi, hz', hs, hb, hzc⟩ := tElem_parts ht
  have hbn : i.bytes * n ≤ 281474976710656 := by
    rw [hb]
    have : by_ * n ≤ 1000 * 4294967296 := Nat.mul_le_mul h1 (by omega)
    omega
  obtain ⟨w', hr, ho, hg⟩ := run_make_full (P := P) w G.w0.heap.size t e i z sz ht' hi hz' hs kl kc n hbn (by simp [maxLen]; omega) H.below.size
  have hcells : (madeCells z.cells (n * sz)).toList = (List.replicate n zs).flatten := by
    rw [← hzc, ← hz, ← hzc]; rw [← toList_madeCells]
  rw [hcells] at ho
  have hall : ∀ v ∈ zs, v.oneCell' = true := by simpa using hone
  obtain ⟨G', l, hh, rr⟩ := new_row H hn hg ho (es := List.replicate n (zs.map fun v => AV.p (.v v))) (by
      have : (List.replicate n (zs.map fun v => AV.p (.v v))).flatten = (List.replicate n zs).flatten.map fun v => AV.p (.v v) := by
        rw [List.map_flatten, List.map_replicate]
      rw [this]; exact pv_rel _) (fun x hx => by rw [List.mem_replicate] at hx; rw [hx.2]; simpa using hz) (by simp)
    (fun x hx => by
      rw [List.mem_flatten] at hx
      obtain ⟨l, hl, hx⟩ := hx
      rw [List.mem_replicate] at hl
      rw [hl.2] at hx
      exact hall x hx)
  exact ⟨_, G', w', hr, l, hh, rr⟩

/-- The elements of a slice. -/
def asrc (h : AHeap) (sz : Nat) : AV → Option (List (List AV))
  | .p (.v (.slice none 0 0)) => some []
  | .p (.sl sz' es) => if sz' = sz then some (pcells es) else none
  | .own id ver off len =>
    match h id with
    | some (.row ver' _ sz' es) => if ver' = ver ∧ sz' = sz then some ((es.drop off).take len) else none
    | none => none
  | _ => none

theorem PEls.len {M : Nat → Nat → Option Value} {b sz : Nat} : ∀ {es : List (List PV)} {o : Nat}, PEls M b o sz es → ∀ e ∈ es, e.length = sz
  | [], _, _, _, h => by cases h
  | x :: es, o, h, e, he => by
    simp only [PEls] at h
    cases he with
    | head => exact h.1
    | tail _ he => exact PEls.len h.2.2 e he

theorem PEls.cells {M : Nat → Nat → Option Value} {b sz : Nat} : ∀ {es : List (List PV)} {o : Nat}, PEls M b o sz es → PCells M b o es.flatten
  | [], _, _ => by simp [PCells]
  | x :: es, o, h => by
    simp only [PEls] at h
    have ap : ∀ {cs ds : List PV} {o : Nat}, PCells M b o cs → PCells M b (o + cs.length) ds → PCells M b o (cs ++ ds) := by
      intro cs
      induction cs with
      | nil => intro ds o _ h; simpa using h
      | cons c cs ih =>
        intro ds o h1 h2
        simp only [PCells, List.cons_append] at h1 ⊢
        exact ⟨h1.1, ih h1.2 (by rwa [List.length_cons, show o + (cs.length + 1) = o + 1 + cs.length by omega] at h2)⟩
    rw [List.flatten_cons]
    refine ap h.2.1 ?_
    rw [h.1]; exact PEls.cells h.2.2

theorem asrc_rel {G : Gh} {h : AHeap} {w : World} (H : HRel G h w) {sz : Nat} {x : AV} {es : List (List AV)} (hs : asrc h sz x = some es) {y : Value} (r : Rel G x y) :
    (∀ e ∈ es, e.length = sz) ∧ ((y = .slice none 0 0 ∧ es = []) ∨ ∃ a c news, y = .slice (some a) es.length c ∧ news.length = es.length * sz ∧ (∀ (j : Nat) (v : Value), news[j]? = some v → w.cell? (a.add j) = some v) ∧
      RelL G es.flatten news ∧ ∀ v ∈ news, v.oneCell' = true) := by
  have fin : ∀ {es : List (List AV)}, es = [] → (∀ e ∈ es, e.length = sz) := fun e => by subst e; simp
  cases x with
  | p x =>
    cases x with
    | v x =>
      simp only [Rel, PRel] at r
      subst r
      cases y with
      | slice a n c =>
        cases a with
        | none =>
          cases n with
          | zero =>
            cases c with
            | zero => simp only [asrc] at hs; cases hs; exact ⟨by simp, .inl ⟨rfl, rfl⟩⟩
            | succ c => simp [asrc] at hs
          | succ n => simp [asrc] at hs
        | some a => simp [asrc] at hs
      | _ => simp [asrc] at hs
    | sl sz' ps =>
      simp only [asrc] at hs
      split at hs
      · rename_i e
        subst e
        cases hs
        simp only [Rel, PRel] at r
        obtain ⟨a, n, c, rfl, rfl, hc, ha, hr⟩ := r
        rcases hr with rfl | ⟨b, o, rfl, he⟩
        · refine ⟨by simp, ?_⟩
          cases a with
          | none => exact .inl ⟨by simp [ha rfl], rfl⟩
          | some a => exact .inr ⟨a, c, [], by simp, by simp, by simp, by simp [RelL], by simp⟩
        · have hl := PEls.len he
          refine ⟨fun e he => by simp only [pcells, List.mem_map] at he; obtain ⟨e', h1, rfl⟩ := he; simpa using hl e' h1, .inr ?_⟩
          obtain ⟨vs, l, gm, rr⟩ := PCells.vals (PEls.cells he)
          refine ⟨⟨b, o, none⟩, c, vs, by simp, by rw [l, flatten_len hl]; simp, fun j v hv => by rw [ptr_add]; exact (H.imm _ _ _ (gm j v hv)).1, by rw [flat_pcells]; exact rr rfl, fun v hv => ?_⟩
          obtain ⟨j, hj, rfl⟩ := List.getElem_of_mem hv
          exact (H.imm _ _ _ (gm j _ (List.getElem?_eq_getElem hj))).2
      · cases hs
  | own id ver off len =>
    simp only [asrc] at hs
    cases hk : h id with
    | none => rw [hk] at hs; cases hs
    | some k =>
      cases k with
      | row ver' e sz' es' =>
        rw [hk] at hs
        simp only at hs
        split at hs
        · rename_i e1
          obtain ⟨rfl, rfl⟩ := e1
          cases hs
          obtain ⟨v, xs, l1, o1, r1, s1, on1, _⟩ := H.blk id _ hk
          simp only [Rel] at r
          obtain ⟨a, n, c, szr, a', hl, hoff, hnc, rfl, hz, ha⟩ := r
          rw [hl] at l1
          cases l1
          have hn : n = es'.length := by rcases o1.2 with ⟨e1, e2⟩ | ⟨_, _, _, e1, _⟩ <;> cases e1 <;> simp_all
          subst hn
          have hlen : ((es'.drop off).take len).length = len := by rw [List.length_take, List.length_drop]; omega
          refine ⟨fun e he => s1 e (List.mem_of_mem_drop (List.mem_of_mem_take he)), ?_⟩
          by_cases h0 : 0 < len
          · have e4 := ha (.inl h0)
            rcases o1.2 with ⟨e1, _⟩ | ⟨g, cap, cur, e1, _, hg, hcap, _, hcur, htk⟩
            · injection e1 with e5 e6; omega
            · cases e1
              simp only [Option.map_some] at e4
              subst e4
              have hfl : ((es'.drop off).take len).flatten = (es'.flatten.drop (off * sz')).take (len * sz') := by
                rw [flatten_drop off s1]
                have : ∀ (l : List (List AV)) (n : Nat), (∀ e ∈ l, e.length = sz') → (l.take n).flatten = l.flatten.take (n * sz') := by
                  intro l
                  induction l with
                  | nil => intro n _; simp
                  | cons a l ih =>
                    intro n hl
                    cases n with
                    | zero => simp
                    | succ n =>
                      rw [List.take_succ_cons, List.flatten_cons, List.flatten_cons, Nat.succ_mul, ih n fun e he => hl e (by simp [he])]
                      rw [show n * sz' + sz' = a.length + n * sz' by rw [hl a (by simp)]; omega, List.take_append, List.take_of_length_le (l := a) (by omega)]
                      simp
                exact this _ _ fun e he => s1 e (List.mem_of_mem_drop he)
              have hxl := r1.length
              rw [flatten_len s1] at hxl
              have hmul : off * sz' + len * sz' ≤ es'.length * sz' := by rw [← Nat.add_mul]; exact Nat.mul_le_mul_right _ hoff
              refine .inr ⟨_, c - off, (xs.drop (off * sz')).take (len * sz'), by rw [hlen], by rw [hlen, List.length_take, List.length_drop]; omega, fun j v hv => ?_, ?_, fun v hv => ?_⟩
              · rw [List.getElem?_take] at hv
                split at hv
                · rw [List.getElem?_drop] at hv
                  rw [ptr_add, World.ownsRow.cellAt o1 _ (by omega)]; exact hv
                · cases hv
              · rw [hfl]; exact RelL.take _ (RelL.drop _ r1)
              · exact on1 v (List.mem_of_mem_drop (List.mem_of_mem_take hv))
          · have hl0 : len = 0 := by omega
            subst hl0
            simp only [List.take_zero]
            cases a' with
            | none => exact .inl ⟨by rw [hz rfl], by simp⟩
            | some a' => exact .inr ⟨a', c - off, [], by simp, by simp, by simp, by simp [RelL], by simp⟩
        · cases hs
  | _ => simp [asrc] at hs

end Go.AM
