/- Pointers to unsafe.Pointer and back; strings put at the end of rows of bytes. -/
import Derived.Test.YtmljoaiedihoiaaDoorAm31
import Derived.Lib.Builder
import Derived.Lib.AppendStr
import Derived.Laws.Externs
import Derived.Lib.UnsafeStr
namespace Go.AM
set_option linter.unusedVariables false
set_option linter.unusedSimpArgs false
open Go Go.RowKit
set_option linter.unusedSectionVars false
variable [Glob]

/-- Where a pointer into a row of the call's own leads. -/
theorem ptr_block {G : Gh} {h : AHeap} {w : World} {id ver sz i j : Nat} {e : TypeId} {es : List (List AV)} {y : Value} (H : HRel G h w) (hk : h id = some (.row ver e sz es)) (r : Rel G (.ptr id ver i j) y) :
    ∃ g cur cap, y = .pointer (some ⟨g, i * sz + j, none⟩) ∧ w.heap[g]? = some (.cells cur e (0, 0)) ∧ cur.size = cap * sz ∧ es.length ≤ cap := by
  simp only [Rel] at r
  obtain ⟨g, n, c, sz', hl, rfl⟩ := r
  have hb := H.blk id _ hk
  simp only [BRel] at hb
  obtain ⟨v, xs, h1, h2, _⟩ := hb
  rw [hl] at h1
  cases h1
  rcases h2.2 with ⟨h3, _⟩ | ⟨g', cap, cur, h3, _, h5, h6, _, h8, _⟩
  · cases h3
  · cases h3
    exact ⟨g, cur, _, rfl, h5, h8, h6⟩

section
variable {P : Program} {N : Nat} {t : Slots} {h : AHeap} {o : Oper}

/-- *T to unsafe.Pointer. -/
theorem op_to_unsafe {s d pt : TypeId} {ji : TypeInfo} {x : Operand} {id ver sz : Nat} {e : TypeId} {es : List (List AV)} (ho : o.op = .convert s d x) (hx : aev t x = .ptr id ver 0 0) (hs : P.underlying s = some (.pointer pt)) (hd : P.underlying d = some .unsafePointer)
    (hi : P.info? pt = some ji) (hj : ji.size ≠ 0) (hk : h id = some (.row ver e sz es)) (hlen : 0 < es.length) (hsz : 0 < sz) : ∀ G a w, StRel N G t h a w → OpRunH P o a w G h (.ptr id ver 0 0) := by
  intro G a w st
  have r := st.ev x
  rw [hx] at r
  obtain ⟨g, cur, cap, hy, hg, hc, hcap⟩ := ptr_block st.heap hk r
  have hoff : 0 * sz + 0 = 0 := by omega
  rw [hoff] at hy
  have hpos : 0 < cur.size := by rw [hc]; exact Nat.mul_pos (by omega) hsz
  have hrun := Lib.run_to_unsafe (P := P) w (cells := cur.size) (e := e) (⟨g, 0, none⟩ : Addr) hs hd hi hj (by simp [World.shape?, hg]) hpos
  refine ⟨a.eval x, G, w, .inl ?_, Gh.Le.refl G, st.heap, r⟩
  simp [execOp, ho, hy, hrun]

theorem liesAt_self {P : Program} {e : TypeId} {c : Nat} (hc : P.cellsOf e = c) (h0 : c ≠ 0) {count : Nat} (hn : 1 ≤ count) : liesAt P P.depth e count 0 e 1 = true := by
  have hd : P.depth = (2 * (P.types.size + Made.depth) + 1) + 1 := rfl
  rw [hd]
  simp only [liesAt, Bool.or_eq_true]
  left
  rw [hd]
  simp [rowAt, hc, h0, hn, sameLayout]

/-- unsafe.Pointer to *T, at the row's head, T the row's type. -/
theorem op_from_unsafe {s d : TypeId} {ji : TypeInfo} {x : Operand} {id ver sz : Nat} {e : TypeId} {es : List (List AV)} (ho : o.op = .convert s d x) (hx : aev t x = .ptr id ver 0 0) (hs : P.underlying s = some .unsafePointer) (hd : P.underlying d = some (.pointer e))
    (hi : P.info? e = some ji) (hc : P.cellsOf e = sz) (hk : h id = some (.row ver e sz es)) (hlen : 0 < es.length) (hsz : 0 < sz) : ∀ G a w, StRel N G t h a w → OpRunH P o a w G h (.ptr id ver 0 0) := by
  intro G a w st
  have r := st.ev x
  rw [hx] at r
  obtain ⟨g, cur, cap, hy, hg, hcs, hcap⟩ := ptr_block st.heap hk r
  have hoff : 0 * sz + 0 = 0 := by omega
  rw [hoff] at hy
  have hl : liesAt P P.depth e (cur.size / P.cellsOf e) 0 e 1 = true := liesAt_self hc (by omega) (by rw [hc, hcs, Nat.mul_div_cancel _ hsz]; omega)
  have hrun := Lib.run_from_unsafe (P := P) w (cells := cur.size) (e := e) (⟨g, 0, none⟩ : Addr) hs hd hi (by simp [World.shape?, hg]) hl
  refine ⟨a.eval x, G, w, .inl ?_, Gh.Le.refl G, st.heap, r⟩
  simp [execOp, ho, hy, hrun]

/-- A call of the compiler's 'no escape': what it is given. -/
theorem op_noescape {c : Call} {f : FuncId} {fn : Func} {x : Operand} {v : AV} (ho : o.op = .call c) (hcal : c.callee = .value (.func f)) (hargs : c.args = #[x]) (hx : aev t x = v) (hf : P.funcs[f]? = some fn) (hname : (fn.name == "runtime.NumGoroutine") = false)
    (hb : fn.body.isNone = true) (hn : Extern.findNext fn = none) (he : Extern.find fn = some Extern.AbiNoEscape.same) : ∀ G a w, StRel N G t h a w → OpRunH P o a w G h v := by
  intro G a w st
  have r := st.ev x
  rw [hx] at r
  refine ⟨a.eval x, G, w, .inl ?_, Gh.Le.refl G, st.heap, r⟩
  have h1 := Lib.run_noEscape (P := P) (w := w) (a.eval x)
  have h2 := run_callFunc_extern (P := P) hf hname hb hn he #[a.eval x] w
  rw [h1] at h2
  have hfv : a.eval (.func f) = .func (.func f) #[] #[] := rfl
  simp [execOp, ho, resolve, hcal, hargs, hfv, Deferred.ofValue, invoke]
  simpa [Result.andThen] using h2

theorem binop_run {op : BinOp} {ty z : TypeId} {x y : Operand} {u v : Value} {r : Bool} {a : Act} {w : World} (ho : o.op = .binOp op ty x y z) (hx : a.eval x = u) (hy : a.eval y = v) (hg : (eqGuard op ty x y u v).run P w = .ok () w) (h : (binOp op ty u v).run P w = .ok (.bool r) w) :
    (execOp a.eval o).run P w = .ok (.value (.bool r)) w := by
  have h2 : (do eqGuard op ty x y u v; binOp op ty u v : Sem Value).run P w = .ok (.bool r) w := by
    rw [Sem.run_bind, hg]; exact h
  unfold execOp
  rw [ho]
  simp only [hx, hy]
  rw [Sem.run_bind, h2]; rfl

theorem equal_nil {ty pe : TypeId} (ht : P.underlying ty = some (.pointer pe)) (b : Option Addr) (w : World) : ∀ d : Nat, (Op.equalIn (d + 1) ty (.pointer none) (.pointer b)).run P w = .ok b.isNone w := fun d => by
  simp [Op.equalIn, run_underlying ht]
theorem equal_ptr {ty pe : TypeId} (ht : P.underlying ty = some (.pointer pe)) (b : Addr) (w : World) : ∀ d : Nat, (Op.equalIn (d + 1) ty (.pointer (some b)) (.pointer none)).run P w = .ok false w := fun d => by
  simp [Op.equalIn, run_underlying ht]

/-- A pointer's test against nil, and against itself. -/
theorem op_nil_nil {ty pe z : TypeId} {x y : Operand} (ho : o.op = .binOp .eql ty x y z) (hx : aev t x = .p (.v (.pointer none))) (hy : aev t y = .p (.v (.pointer none))) (ht : P.underlying ty = some (.pointer pe)) : ∀ G a w, StRel N G t h a w → OpRunH P o a w G h (.p (.v (.bool true))) := by
  intro G a w st
  have rx := st.ev x
  have ry := st.ev y
  rw [hx] at rx
  rw [hy] at ry
  simp only [Rel, PRel] at rx ry
  refine ⟨.bool true, G, w, .inl (binop_run ho rx ry ?_ ?_), Gh.Le.refl G, st.heap, by simp [Rel, PRel]⟩
  · simp [eqGuard]
  · have h := equal_nil (P := P) ht none w 9999
    simp only [binOp]
    simp [Op.equal, Op.maxDepth, h]

theorem op_ptr_nil {ty pe z : TypeId} {x y : Operand} {id ver i j : Nat} (ho : o.op = .binOp .eql ty x y z) (hx : aev t x = .ptr id ver i j) (hy : aev t y = .p (.v (.pointer none))) (ht : P.underlying ty = some (.pointer pe)) : ∀ G a w, StRel N G t h a w → OpRunH P o a w G h (.p (.v (.bool false))) := by
  intro G a w st
  have rx := st.ev x
  have ry := st.ev y
  rw [hx] at rx
  rw [hy] at ry
  simp only [Rel, PRel] at rx ry
  obtain ⟨g, n, c, sz, _, rx⟩ := rx
  refine ⟨.bool false, G, w, .inl (binop_run ho rx ry ?_ ?_), Gh.Le.refl G, st.heap, by simp [Rel, PRel]⟩
  · simp [eqGuard]
  · have h := equal_ptr (P := P) ht ⟨g, i * sz + j, none⟩ w 9999
    simp only [binOp]
    simp [Op.equal, Op.maxDepth, h]

theorem op_ptr_same {ty pe z : TypeId} {x y : Operand} {id ver i j : Nat} {ji : TypeInfo} (ho : o.op = .binOp .neq ty x y z) (hx : aev t x = .ptr id ver i j) (hy : aev t y = .ptr id ver i j) (ht : P.underlying ty = some (.pointer pe)) (hi : P.info? pe = some ji) : ∀ G a w, StRel N G t h a w → OpRunH P o a w G h (.p (.v (.bool false))) := by
  intro G a w st
  have rx := st.ev x
  have ry := st.ev y
  rw [hx] at rx
  rw [hy] at ry
  simp only [Rel] at rx ry
  obtain ⟨g, n, c, sz, l1, rx⟩ := rx
  obtain ⟨g', n', c', sz', l2, ry⟩ := ry
  rw [l1] at l2
  cases l2
  refine ⟨.bool false, G, w, .inl (binop_run ho rx ry ?_ ?_), Gh.Le.refl G, st.heap, by simp [Rel, PRel]⟩
  · simp [eqGuard]
  · exact Lib.run_neq_ptr_same w _ ht hi
end


/-- Bytes put at the end of a row: where the new row lies. -/
theorem app_str {P : Program} {w : World} (base : Nat) (t u ty e : TypeId) (i : TypeInfo) (ht : P.underlying t = some (.slice e)) (hu : P.underlying u = some .string) (hi : P.info? e = some i) (hz : i.zero = some (.int .u8 0)) (hsize : i.size = 1) (hby : i.bytes = 1)
    (v : Value) (n : Nat) (xs : List Value) (hown : w.ownsRow base e 1 v n xs) (s : ByteArray) (h63 : n + s.size ≤ maxLen) (hbytes : n + s.size ≤ 140737488355328) (hbase : base ≤ w.heap.size) :
    ∃ v' w', (Builtin.append_ #[t, u] ty #[v, .string s]).run P w = .ok v' w' ∧ w'.ownsRow base e 1 v' (n + s.size) (xs ++ Lib.strCells s) ∧ w.grownBy w' v.ownBlock ∧ ∀ g, v'.ownBlock = some g → v.ownBlock = some g ∨ w.heap.size ≤ g := by
  obtain ⟨v', w', h1, h2, h3, h4⟩ := Lib.run_append_own_string (P := P) w base t u ty e i ht hu hi hz hsize hby v n xs hown s h63 hbytes hbase
  refine ⟨v', w', h1, h2, h3, ?_⟩
  have hsmall : n + s.size ≤ 9223372036854775807 := by simp only [maxLen] at h63; omega
  rcases hown.2 with ⟨rfl, rfl⟩ | ⟨g, cap, cur, rfl, hbg, hg, hnc, hcm, hcs, htake⟩
  · by_cases hm : s.size = 0
    · have := h4.2 ⟨rfl, hm⟩
      subst this
      simp [Value.ownBlock]
    · have hr := run_append_nil_string (P := P) w t u ty e i (.int .u8 0) ht hu hi hz s (by omega) (by omega) (by rw [hby]; omega)
      rw [hr] at h1
      cases h1
      simp [Value.ownBlock]
  · by_cases hroom : n + s.size ≤ cap
    · have hr := Lib.run_append_room_string (P := P) w t u ty e i ht hu hi hsize g n cap cur hg s hroom (by simpa using (by omega : n + s.size ≤ cur.size))
      rw [hr] at h1
      cases h1
      simp [Value.ownBlock]
    · have hxl : xs.length = n := by simpa using hown.1
      have holds : ∀ j u, xs[j]? = some u → w.cell? ((⟨g, 0, none⟩ : Addr).add j) = some u := hown.cells (g := g) rfl
      have hr := Lib.run_append_grow_string (P := P) w t u ty e i (.int .u8 0) ht hu hi hz ⟨g, 0, none⟩ n cap xs (by rw [hsize]; simpa using hxl) holds s (by omega) (by omega) (by rw [hby]; exact growslice_fits (by omega) (by omega))
      rw [hr] at h1
      cases h1
      simp [Value.ownBlock]

/-- The cells of a string's bytes. -/
def strR (s : ByteArray) : List (List AV) := s.data.toList.map fun b => [.p (.v (.int .u8 b.toNat))]
@[simp] theorem strR_length (s : ByteArray) : (strR s).length = s.size := by
  unfold strR
  rw [List.length_map]; rfl
theorem strR_rel (G : Gh) (s : ByteArray) : RelL G (strR s).flatten (Lib.strCells s) := by
  unfold strR Lib.strCells
  generalize s.data.toList = l
  induction l with
  | nil => simp [RelL]
  | cons b l ih => simp only [List.map_cons, List.flatten_cons, List.cons_append, List.nil_append, RelL]; exact ⟨by simp [Rel, PRel], ih⟩


/-- append(row of bytes, string...). -/
theorem op_append_str {P : Program} {N : Nat} {t : Slots} {h : AHeap} {o : Oper} {c : Call} {x y : Operand} {tt u e : TypeId} {ji : TypeInfo} {id ver len : Nat} {es : List (List AV)} {s : ByteArray} (ho : o.op = .call c) (hcal : c.callee = .builtin .append) (hargs : c.args = #[x, y]) (hty : c.argTypes = #[tt, u])
    (hx : aev t x = .own id ver 0 len) (hy : aev t y = .p (.v (.string s))) (ht : P.underlying tt = some (.slice e)) (hu : P.underlying u = some .string) (hi : P.info? e = some ji) (hz : ji.zero = some (.int .u8 0)) (hsize : ji.size = 1) (hby : ji.bytes = 1)
    (hk : h id = some (.row ver e 1 es)) (hlen : len = es.length) (hsz : es.length + s.size ≤ 1000000) : ∀ G a w, StRel N G t h a w → OpRunH P o a w G (hp h [(id, .row (ver + 1) e 1 (es ++ strR s))]) (.own id (ver + 1) 0 (es.length + s.size)) := by
  intro G a w st
  have rx := st.ev x
  have ry := st.ev y
  rw [hx] at rx
  rw [hy] at ry
  simp only [Rel, PRel] at rx ry
  obtain ⟨ad, n, cc, sz, a', hl, q1, q2, q3, q4, q5⟩ := rx
  have hb := st.heap.blk id _ hk
  simp only [BRel] at hb
  obtain ⟨v, xs, h1, h2, h3, h4, h5, h6⟩ := hb
  have hv : v = a.eval x := by
    rw [hl] at h1
    cases h1
    have q5' := q5 (.inr trivial)
    rcases h2.2 with ⟨e1, e2⟩ | ⟨g, cap, cur, e1, _, _, _, _, _, _⟩
    · cases e1
      rw [q3, q5', hlen, e2]; rfl
    · cases e1
      rw [q3, q5', hlen]; simp
  have hbase : G.w0.heap.size ≤ w.heap.size := st.heap.below.size
  have hml : es.length + s.size ≤ maxLen := by simp only [maxLen]; omega
  obtain ⟨v', w', r1, r2, r3, r4⟩ := app_str (P := P) (w := w) G.w0.heap.size tt u o.type e ji ht hu hi hz hsize hby v es.length xs h2 s hml (by omega) hbase
  have hn : (strR s).length = s.size := strR_length s
  obtain ⟨G', g1, g2, g3⟩ := row_grow (news := strR s) (newv := Lib.strCells s) st.heap hk h1 h2 h3 h4 h5 h6 (fun y hy => by
    unfold strR at hy
    obtain ⟨b, _, rfl⟩ := List.mem_map.1 hy
    rfl) (by rw [hn]; exact r2) r3 r4 (strR_rel G s) (fun y hy => by
    unfold Lib.strCells at hy
    obtain ⟨b, _, rfl⟩ := List.mem_map.1 hy
    rfl)
  rw [hn] at g3
  refine ⟨v', G', w', .inl ?_, g1, g2, g3⟩
  simp [execOp, ho, resolve, hcal, hargs, hty, invoke, builtin, ← hv, ry, r1]


/-- A row of the call's own that the machine no longer lets be written: it is forgotten, an empty one stands for it. -/
theorem row_gone {G : Gh} {h : AHeap} {w w' : World} {id ver sz : Nat} {e : TypeId} {es : List (List AV)} {v0 : Value} {xs : List Value} (H : HRel G h w) (hk : h id = some (.row ver e sz es)) (hl : G.loc id ver = some (v0, sz))
    (o1 : w.ownsRow G.w0.heap.size e sz v0 es.length xs) (m1 : ∀ g, v0.ownBlock = some g → ∀ o, G.M g o = none) (e3 : w.grownBy w' v0.ownBlock) : ∃ G', G.Le G' ∧ HRel G' (hp h [(id, .row (ver + 1) e sz [])]) w' := by
  let G' : Gh := { M := G.M, loc := fun i v => if i = id ∧ v = ver + 1 then some (.slice none 0 0, sz) else G.loc i v, w0 := G.w0 }
  have hnone : G.loc id (ver + 1) = none := H.top id _ (ver + 1) hk (by simp [Blk.ver])
  have hle : G.Le G' := ⟨fun _ _ _ h => h, fun i v y h => by
    show (if i = id ∧ v = ver + 1 then _ else _) = _
    rw [if_neg (fun ⟨e1, e2⟩ => by rw [e1, e2, hnone] at h; cases h)]; exact h, rfl⟩
  have hloc : G'.loc id (ver + 1) = some (.slice none 0 0, sz) := by
    show (if id = id ∧ ver + 1 = ver + 1 then _ else _) = _
    simp
  refine ⟨G', hle, ?_⟩
  refine HRel.upd H hle rfl (fun i v y hy => ?_) e3 ?_ ?_ ?_ (fun v hv => ?_)
  · by_cases e : i = id ∧ v = ver + 1
    · exact .inr e.1
    · have : (if i = id ∧ v = ver + 1 then _ else G.loc i v) = some y := hy
      rw [if_neg e] at this; exact .inl this
  · intro g hg
    refine ⟨(o1.lt g hg).1, fun o => m1 g hg o, fun i2 l hne hl2 h2 => H.sep id i2 _ l g (fun e => hne e.symm) hk hl2 (by simp [cbOf, hl, hg]) h2⟩
  · exact ⟨.slice none 0 0, [], hloc, World.ownsRow_nil w' _ e sz, by simp [RelL], by simp, by simp, by simp [Value.ownBlock]⟩
  · intro g hg
    simp only [cbOf, hloc, Option.bind_some] at hg
    cases hg
  · simp only [Blk.ver] at hv
    show (if id = id ∧ v = ver + 1 then _ else G.loc id v) = none
    rw [if_neg (by omega)]
    exact H.top id _ v hk (by simp only [Blk.ver]; omega)

theorem grown_freeze (w : World) (g n : Nat) : w.grownBy (w.freeze ⟨g, 0, none⟩ n) (some g) := by
  unfold World.freeze
  split
  · exact ⟨rfl, rfl, rfl, Nat.le_refl _, fun _ _ _ => rfl⟩
  · refine ⟨rfl, rfl, rfl, by simp, fun k hk hne => ?_⟩
    simp only [Array.getElem?_modify]
    rw [if_neg (fun e => hne (by rw [e]))]


theorem strR_inv {G : Gh} {s : ByteArray} {xs : List Value} (h : RelL G (strR s).flatten xs) : xs = Lib.strCells s := by
  unfold strR at h
  unfold Lib.strCells
  revert xs
  generalize s.data.toList = l
  induction l with
  | nil => intro xs h; cases xs with
    | nil => rfl
    | cons _ _ => simp [RelL] at h
  | cons b l ih =>
    intro xs h
    cases xs with
    | nil => simp [RelL] at h
    | cons x xs =>
      simp only [List.map_cons, List.flatten_cons, List.cons_append, List.nil_append, RelL] at h
      obtain ⟨h1, h2⟩ := h
      simp only [Rel, PRel] at h1
      rw [h1, List.map_cons, ih h2]

section
variable {P : Program} {N : Nat} {t : Slots} {h : AHeap} {o : Oper}

/-- unsafe.SliceData of a row that is not empty. -/
theorem run_slice_data {G : Gh} {a : Act} {w : World} {c : Call} {x : Operand} {id ver len sz : Nat} {e : TypeId} {es : List (List AV)} (ho : o.op = .call c) (hcal : c.callee = .builtin .unsafeSliceData) (hargs : c.args = #[x]) (rx : Rel G (.own id ver 0 len) (a.eval x)) (H : HRel G h w) (hk : h id = some (.row ver e sz es)) (hpos : 0 < es.length) :
    OpRunH P o a w G h (.ptr id ver 0 0) := by
  simp only [Rel] at rx
  obtain ⟨ad, n, cc, sz', a', hl, q1, q2, q3, q4, q5⟩ := rx
  have hb := H.blk id _ hk
  simp only [BRel] at hb
  obtain ⟨v, xs, h1, h2, _⟩ := hb
  rw [hl] at h1
  cases h1
  have q5' := q5 (.inr trivial)
  rcases h2.2 with ⟨e1, e2⟩ | ⟨g, cap, cur, e1, _, _, e6, _, _⟩
  · omega
  · cases e1
    have hr := Lib.run_unsafeSliceData_row (P := P) (w := w) c.argTypes o.type (⟨g, 0 * sz, none⟩ : Addr) len (cc - 0) (by omega)
    refine ⟨.pointer (some ⟨g, 0 * sz, none⟩), G, w, .inl ?_, Gh.Le.refl G, H, ?_⟩
    · rw [q5'] at q3
      simp only [Option.map_some] at q3
      simp only [Nat.zero_mul, Nat.sub_zero] at hr q3
      simp [execOp, ho, resolve, hcal, hargs, invoke, builtin, q3, hr, Result.andThen]
    · simp only [Rel]
      exact ⟨g, _, _, _, hl, by simp⟩

/-- .. in a region that draws its order. -/
theorem loc_slice_data {c : Call} {x : Operand} {id ver len sz : Nat} {e : TypeId} {es : List (List AV)} (ho : o.op = .call c) (hcal : c.callee = .builtin .unsafeSliceData) (hargs : c.args = #[x]) (hx : aev t x = .own id ver 0 len) (hmem : x ∈ o.op.operands) (hpos : 0 < es.length) :
    OpLoc P o t ⟨true, [(id, .row ver e sz es)], [], .ptr id ver 0 0⟩ := by
  intro t' h' he hr hw _ G a w H hev K Q' hK
  have rx := hev x
  rw [he x hmem, hx] at rx
  have r : OpRun P o a w G h' [] (.ptr id ver 0 0) := run_slice_data (h := h') ho hcal hargs rx H (hr _ (List.mem_cons_self ..)) hpos
  exact oper_wp_of_run r hK

/-- unsafe.String over a whole row of bytes: the bytes; the row is frozen. -/
theorem run_unsafe_str {G : Gh} {a : Act} {w : World} {c : Call} {x y : Operand} {pt it e : TypeId} {id ver : Nat} {s : ByteArray} (ho : o.op = .call c) (hcal : c.callee = .builtin .unsafeString) (hargs : c.args = #[x, y]) (hty : c.argTypes = #[pt, it]) (rx : Rel G (.ptr id ver 0 0) (a.eval x)) (ry : Rel G (.p (.v (.int .i64 s.size))) (a.eval y)) (H : HRel G h w)
    (hp' : P.underlying pt = some (.pointer e)) (hc : P.cellsOf e = 1) (hk : h id = some (.row ver e 1 (strR s))) (hpos : 0 < s.size) (hsm : s.size ≤ 1000000) :
    OpRunH P o a w G (hp h [(id, .row (ver + 1) e 1 [])]) (.p (.v (.string s))) := by
  simp only [Rel, PRel] at rx ry
  obtain ⟨g, n, cc, sz', hl, rx⟩ := rx
  have hb := H.blk id _ hk
  simp only [BRel] at hb
  obtain ⟨v, xs, h1, h2, h3, h4, h5, h6⟩ := hb
  have hl' := hl
  rw [hl] at h1
  cases h1
  have hxs := strR_inv h3
  subst hxs
  have hsz : s.data.toList.length = s.size := rfl
  rcases h2.2 with ⟨e1, e2⟩ | ⟨g', cap, cur, e1, _, e5, e6, _, e8, _⟩
  · cases e1
  · cases e1
    rw [strR_length] at e6
    have hr := Lib.run_unsafeString_row (P := P) (w := w) pt it o.type e hp' hc g cur.size (by simp [World.shape?, e5]) s.data.toList (by intro e; rw [e] at hsz; simp at hsz; omega) (by rw [hsz, e8]; omega) (by rw [hsz]; omega) (fun j b hb => by
      refine h2.cells (g := g) rfl j _ ?_
      unfold Lib.strCells
      rw [List.getElem?_map, hb]; rfl)
    obtain ⟨G', g1, g2⟩ := row_gone (w' := w.freeze ⟨g, 0, none⟩ s.size) H hk hl' h2 h6 (grown_freeze w g s.size)
    refine ⟨.string s, G', _, .inl ?_, g1, g2, by simp [Rel, PRel]⟩
    rw [hsz] at hr
    have hoff : 0 * 1 + 0 = 0 := rfl
    simp only [Nat.zero_mul, Nat.add_zero] at rx
    simp [execOp, ho, resolve, hcal, hargs, hty, invoke, builtin, rx, ry, hr, Result.andThen]
/-- .. in a region that draws its order. -/
theorem loc_unsafe_string {c : Call} {x y : Operand} {pt it e : TypeId} {id ver : Nat} {s : ByteArray} (ho : o.op = .call c) (hcal : c.callee = .builtin .unsafeString) (hargs : c.args = #[x, y]) (hty : c.argTypes = #[pt, it]) (hx : aev t x = .ptr id ver 0 0) (hy : aev t y = .p (.v (.int .i64 s.size))) (m1 : x ∈ o.op.operands) (m2 : y ∈ o.op.operands)
    (hp' : P.underlying pt = some (.pointer e)) (hc : P.cellsOf e = 1) (hpos : 0 < s.size) (hsm : s.size ≤ 1000000) :
    OpLoc P o t ⟨true, [(id, .row ver e 1 (strR s))], [(id, .row (ver + 1) e 1 [])], .p (.v (.string s))⟩ := by
  intro t' h' he hr hw _ G a w H hev K Q' hK
  have rx := hev x
  have ry := hev y
  rw [he x m1, hx] at rx
  rw [he y m2, hy] at ry
  have r : OpRun P o a w G h' [(id, .row (ver + 1) e 1 [])] (.p (.v (.string s))) := run_unsafe_str (h := h') ho hcal hargs hty rx ry H hp' hc (hr _ (List.mem_cons_self ..)) hpos hsm
  exact oper_wp_of_run r hK

end


theorem strR_app (u s : ByteArray) : strR u ++ strR s = strR (u ++ s) := by
  unfold strR
  rw [ByteArray.toList_data_append, List.map_append]

/-- append(row of bytes, string...), the row as a string. -/
theorem op_append_bytes {P : Program} {N : Nat} {t : Slots} {h : AHeap} {o : Oper} {c : Call} {x y : Operand} {tt q e : TypeId} {ji : TypeInfo} {id ver : Nat} {u s : ByteArray} (ho : o.op = .call c) (hcal : c.callee = .builtin .append) (hargs : c.args = #[x, y]) (hty : c.argTypes = #[tt, q])
    (hx : aev t x = .own id ver 0 u.size) (hy : aev t y = .p (.v (.string s))) (ht : P.underlying tt = some (.slice e)) (hu : P.underlying q = some .string) (hi : P.info? e = some ji) (hz : ji.zero = some (.int .u8 0)) (hsize : ji.size = 1) (hby : ji.bytes = 1)
    (hk : h id = some (.row ver e 1 (strR u))) (hsz : u.size + s.size ≤ 1000000) : ∀ G a w, StRel N G t h a w → OpRunH P o a w G (hp h [(id, .row (ver + 1) e 1 (strR (u ++ s)))]) (.own id (ver + 1) 0 (u ++ s).size) := by
  have hop := op_append_str (N := N) (t := t) (h := h) (es := strR u) ho hcal hargs hty hx hy ht hu hi hz hsize hby hk (strR_length u).symm (by rw [strR_length]; exact hsz)
  rw [strR_length, strR_app, ← ByteArray.size_append] at hop
  exact hop

end Go.AM
