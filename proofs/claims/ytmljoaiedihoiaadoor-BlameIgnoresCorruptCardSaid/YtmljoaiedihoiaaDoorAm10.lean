/- One operation over the abstract state, as a function that can be computed. -/
import Derived.Test.YtmljoaiedihoiaaDoorAm9
namespace Go.AM
set_option linter.unusedVariables false
set_option linter.unusedSimpArgs false
open Go Go.RowKit
set_option linter.unusedSectionVars false
variable [Glob]

/-- A type's zero, in cells. -/
def tZero (P : Program) (t : TypeId) : Option (List Value) := (P.info? t).bind fun i => i.zero.map fun z => z.cells.toList
/-- A field: offset, struct or array?, cells. -/
def tField (P : Program) (s : TypeId) (f : Nat) : Option (Nat × Bool × Nat) :=
  match P.underlying s with
  | some (.struct fs) => (fs[f]?).bind fun x => (tAgg P x.type).map fun q => (x.offset, q.1, q.2)
  | _ => none
/-- The fields' places: offset, cells. -/
def tStruct (P : Program) (s : TypeId) : Option (List (Nat × Nat)) :=
  match P.underlying s with
  | some (.struct fs) => fs.toList.mapM fun x => (P.info? x.type).map fun i => (x.offset, i.size)
  | _ => none
/-- An array: length, the element's cells, struct or array? -/
def tArr (P : Program) (t : TypeId) : Option (Nat × Nat × Bool) :=
  match P.underlying t with
  | some (.array n e) => (tAgg P e).map fun q => (n, q.2, q.1)
  | _ => none
def tKind (P : Program) (t : TypeId) : Option IntKind :=
  match P.underlying t with
  | some (.int k) => some k
  | _ => none
def tLen (P : Program) (t : TypeId) : Option Nat :=
  match P.underlying t with
  | some (.array n _) => some n
  | _ => none

def tStr (P : Program) (t : TypeId) : Bool :=
  match P.underlying t with
  | some .string => true
  | _ => false
theorem tStr_run {P : Program} {t : TypeId} (h : tStr P t = true) : P.underlying t = some .string := by
  unfold tStr at h
  split at h
  · assumption
  · cases h

def pv (l : List Value) : List AV := l.map fun v => .p (.v v)

def abin (op : BinOp) : Value → Value → Option Value
  | .int k a, .int k' b =>
    match op with
    | .shl => if b < 0 then none else some (.int k (k.wrap (a * 2 ^ (min b.toNat k.bits))))
    | .shr => if b < 0 then none else some (.int k (a.fdiv (2 ^ (min b.toNat k.bits))))
    | .add => if k = k' then some (.int k (k.wrap (a + b))) else none
    | .sub => if k = k' then some (.int k (k.wrap (a - b))) else none
    | .mul => if k = k' then some (.int k (k.wrap (a * b))) else none
    | .quo => if k = k' ∧ b ≠ 0 then some (.int k (k.wrap (a.tdiv b))) else none
    | .rem => if k = k' ∧ b ≠ 0 then some (.int k (a.tmod b)) else none
    | .and => if k = k' then some (.int k (k.wrap (BitVec.ofInt k.bits a &&& BitVec.ofInt k.bits b).toNat)) else none
    | .or => if k = k' then some (.int k (k.wrap (BitVec.ofInt k.bits a ||| BitVec.ofInt k.bits b).toNat)) else none
    | .xor => if k = k' then some (.int k (k.wrap (BitVec.ofInt k.bits a ^^^ BitVec.ofInt k.bits b).toNat)) else none
    | .andNot => if k = k' then some (.int k (k.wrap (BitVec.ofInt k.bits a &&& ~~~BitVec.ofInt k.bits b).toNat)) else none
    | .eql => if k = k' then some (.bool (decide (a = b))) else none
    | .neq => if k = k' then some (.bool (decide (a ≠ b))) else none
    | .lss => if k = k' then some (.bool (a < b)) else none
    | .leq => if k = k' then some (.bool (a ≤ b)) else none
    | .gtr => if k = k' then some (.bool (a > b)) else none
    | .geq => if k = k' then some (.bool (a ≥ b)) else none
  | .string a, .string b =>
    match op with
    | .add => if a.size + b.size < 4294967296 then some (.string (a ++ b)) else none
    | _ => none
  | _, _ => none

theorem abin_run {P : Program} {op : BinOp} {x y u : Value} (h : abin op x y = some u) (t : TypeId) (ox oy : Operand) (w : World) :
    (do eqGuard op t ox oy x y; binOp op t x y : Sem Value).run P w = .ok u w := by
  cases x with
  | int k a =>
    cases y with
    | int k' b =>
      have hg : (eqGuard op t ox oy (.int k a) (.int k' b)).run P w = .ok () w := by unfold eqGuard; cases op <;> simp
      rw [Sem.run_bind, hg]
      simp only [Result.andThen_ok]
      cases op <;> simp only [abin] at h <;> split at h
      all_goals first
        | (cases h; done)
        | (rename_i hc; cases h; subst hc; simp [binOp, Op.intArith, Op.intBits, Op.intCmp]; done)
        | (rename_i hc; cases h; subst hc; simp [binOp, Op.intCmp]; rfl)
        | (rename_i hc; cases h; obtain ⟨rfl, h2⟩ := hc; simp [binOp, Op.intDiv, h2]; done)
        | (rename_i hc; cases h; simp [binOp, Op.shift, hc]; done)
    | _ => simp [abin] at h
  | string a =>
    cases y with
    | string b =>
      cases op <;> simp only [abin] at h <;> try (cases h; done)
      split at h
      · rename_i hc
        cases h
        have h2 : ¬ (9223372036854775807 < (a.size : Int) + (b.size : Int)) := by omega
        simp [eqGuard, binOp, Op.stringOp, IntKind.max, IntKind.bits, IntKind.signed, h2]
      · cases h
    | _ => simp [abin] at h
  | _ => cases y <;> simp [abin] at h

def AV.val : AV → Option Value
  | .p (.v x) => some x
  | _ => none

theorem AV.val_rel {G : Gh} {x : AV} {u : Value} (h : x.val = some u) {y : Value} (r : Rel G x y) : y = u := by
  cases x with
  | p x =>
    cases x with
    | v x => simp only [AV.val] at h; cases h; simpa only [Rel, PRel] using r
    | sl => simp [AV.val] at h
  | _ => simp [AV.val] at h

/-- Is a slice nil? -/
def anil : AV → Option Bool
  | .p (.v (.slice a _ _)) => some a.isNone
  | .p (.sl _ (_ :: _)) => some false
  | .own _ _ _ (_ + 1) => some false
  | _ => none

theorem anil_rel {G : Gh} {x : AV} {b : Bool} (h : anil x = some b) {y : Value} (r : Rel G x y) : ∃ a n c, y = .slice a n c ∧ a.isNone = b := by
  cases x with
  | p x =>
    cases x with
    | v x =>
      simp only [Rel, PRel] at r
      subst r
      cases y <;> simp [anil] at h
      exact ⟨_, _, _, rfl, h⟩
    | sl sz es =>
      cases es with
      | nil => simp [anil] at h
      | cons e es =>
        simp only [anil] at h
        cases h
        simp only [Rel, PRel] at r
        obtain ⟨a, n, c, rfl, _, _, _, h | ⟨b, o, rfl, _⟩⟩ := r
        · cases h
        · exact ⟨_, _, _, rfl, rfl⟩
  | own id ver off len =>
    cases len with
    | zero => simp [anil] at h
    | succ len =>
      simp only [anil] at h
      cases h
      simp only [Rel] at r
      obtain ⟨a, n, c, sz, a', h1, h2, h3, rfl, h4, h5⟩ := r
      refine ⟨_, _, _, rfl, ?_⟩
      have := h5 (.inl (by omega))
      cases a with
      | none =>
        -- a nil slice has no element
        simp at this
        subst this
        have := h4 rfl
        omega
      | some a => rw [this]; rfl
  | _ => simp [anil] at h

/-- A slice's length. -/
def alen : AV → Option Nat
  | .p (.v (.slice _ n _)) => some n
  | .p (.sl _ es) => some es.length
  | .own _ _ _ len => some len
  | .sub _ _ _ _ len => some len
  | _ => none

theorem alen_rel {G : Gh} {x : AV} {n : Nat} (h : alen x = some n) {y : Value} (r : Rel G x y) : ∃ a c, y = .slice a n c := by
  cases x with
  | p x =>
    cases x with
    | v x =>
      simp only [Rel, PRel] at r
      subst r
      cases y <;> simp [alen] at h
      subst h
      exact ⟨_, _, rfl⟩
    | sl sz es =>
      simp only [alen] at h
      cases h
      simp only [Rel, PRel] at r
      obtain ⟨a, n, c, rfl, rfl, _⟩ := r
      exact ⟨_, _, rfl⟩
  | own id ver off len =>
    simp only [alen] at h
    cases h
    simp only [Rel] at r
    obtain ⟨a, n, c, sz, a', h1, h2, h3, rfl, _⟩ := r
    exact ⟨_, _, rfl⟩
  | sub id ver i j len =>
    simp only [alen] at h
    cases h
    simp only [Rel] at r
    obtain ⟨g, n, c, sz, cap, h1, rfl, h2⟩ := r
    exact ⟨_, _, rfl⟩
  | _ => simp [alen] at h

/-- The address of an element. -/
def aidx (P : Program) (h : AHeap) (t : TypeId) (x : AV) (i : Int) : Option AV :=
  match tElem P t with
  | some (_, sz, _, _) =>
    match x with
    | .p (.sl sz' es) => if sz' = sz ∧ 0 ≤ i then (es[i.toNat]?).map AV.iptr else none
    | .own id ver off len => match h id with
      | some (.row ver' _ sz' _) => if ver' = ver ∧ sz' = sz ∧ 0 ≤ i ∧ i < len then some (.ptr id ver (off + i.toNat) 0) else none
      | none => none
    | .sub id ver a b len => if 0 ≤ i ∧ i < len then some (.ptr id ver a (b + i.toNat * sz)) else none
    | _ => none
  | none =>
    match tArr P t with
    | some (n, sz, _) =>
      match x with
      | .ptr id ver a b => if 0 ≤ i ∧ i < n then some (.ptr id ver a (b + i.toNat * sz)) else none
      | .iptr cs => if 0 ≤ i ∧ i < n then some (.iptr (cs.drop (i.toNat * sz))) else none
      | _ => none
    | none => none

theorem tArr_parts {P : Program} {t : TypeId} {n sz : Nat} {ag : Bool} (h : tArr P t = some (n, sz, ag)) : ∃ e, P.underlying t = some (.array n e) ∧ tAgg P e = some (ag, sz) := by
  unfold tArr at h
  cases hd : P.underlying t with
  | none => simp [hd] at h
  | some d =>
    cases d with
    | array n' e =>
      simp only [hd] at h
      cases ha : tAgg P e with
      | none => simp [ha] at h
      | some q => simp [ha] at h; obtain ⟨rfl, rfl, rfl⟩ := h; exact ⟨e, rfl, ha⟩
    | _ => simp [hd] at h

theorem aidx_rel {P : Program} {G : Gh} {h : AHeap} {w : World} (H : HRel G h w) {t : TypeId} {x v : AV} {k : IntKind} {i : Int} (ha : aidx P h t x i = some v) {y : Value} (r : Rel G x y) :
    ∃ u, (Instr.indexAt t y (.int k i)).run P w = .ok u w ∧ Rel G v u := by
  unfold aidx at ha
  cases ht : tElem P t with
  | some q =>
    obtain ⟨e, sz, by_, zs⟩ := q
    obtain ⟨inf, z, ht', hi, hz', hs, hb, hzc⟩ := tElem_parts ht
    have hsz : (sizeOf e).run P w = .ok sz w := by simp [sizeOf, typeInfo, hi, hs]
    rw [ht] at ha
    cases x with
    | p x =>
      cases x with
      | sl sz' es =>
        simp only at ha
        split at ha
        · rename_i hc
          obtain ⟨rfl, h0⟩ := hc
          rw [Option.map_eq_some_iff] at ha
          obtain ⟨e', he, rfl⟩ := ha
          simp only [Rel, PRel] at r
          obtain ⟨a, n, c, rfl, rfl, hnc, _, hr⟩ := r
          have hlt := (List.getElem?_eq_some_iff.1 he).1
          rcases hr with rfl | ⟨b, o, rfl, hE⟩
          · simp at hlt
          · obtain ⟨h1, h2⟩ := PEls.get _ _ hE he
            refine ⟨.pointer (some ⟨b, o + i.toNat * sz', none⟩), ?_, by simp only [Rel]; exact ⟨b, _, rfl, h2⟩⟩
            have hb : 0 ≤ i ∧ i < (es.length : Int) := ⟨h0, by omega⟩
            simp [Instr.indexAt, run_underlying ht', asIntOf, hb, hsz, ptr_add]
        · cases ha
      | v => simp at ha
    | own id ver off len =>
      simp only at ha
      cases hk : h id with
      | none => rw [hk] at ha; cases ha
      | some kk =>
        cases kk with
        | row ver' e' sz' es =>
          rw [hk] at ha
          simp only at ha
          split at ha
          · rename_i hc
            obtain ⟨rfl, rfl, h0, h1⟩ := hc
            cases ha
            obtain ⟨v0, xs, l1, o1, r1, s1, on1, m1⟩ := H.blk id _ hk
            simp only [Rel] at r
            obtain ⟨a, n, c, szr, a', hl, hoff, hnc, rfl, hz, ha'⟩ := r
            rw [hl] at l1
            cases l1
            have e4 := ha' (.inl (by omega))
            rcases o1.2 with ⟨e1, e2⟩ | ⟨g, cap, cur, e1, _⟩
            · injection e1 with q1 q2 q3; subst q1 q2 q3; omega
            · injection e1 with q1 q2 q3; subst q1 q2 q3
              simp at e4
              subst e4
              refine ⟨.pointer (some ⟨g, off * sz' + i.toNat * sz', none⟩), ?_, by simp only [Rel]; exact ⟨g, _, _, sz', hl, by simp [Nat.add_mul]⟩⟩
              simp [Instr.indexAt, run_underlying ht', asIntOf, h0, h1, hsz, ptr_add]
          · cases ha
    | sub id ver a b len =>
      simp only at ha
      split at ha
      · rename_i hc
        cases ha
        simp only [Rel] at r
        obtain ⟨g, n, c, sz0, cap, hl, rfl, h2⟩ := r
        refine ⟨.pointer (some ⟨g, a * sz0 + b + i.toNat * sz, none⟩), ?_, by simp only [Rel]; exact ⟨g, n, c, sz0, hl, by simp [Nat.add_assoc]⟩⟩
        simp [Instr.indexAt, run_underlying ht', asIntOf, hc, hsz, ptr_add]
      · cases ha
    | _ => simp at ha
  | none =>
    rw [ht] at ha
    simp only at ha
    cases hq : tArr P t with
    | none => rw [hq] at ha; cases ha
    | some q =>
      obtain ⟨n, sz, ag⟩ := q
      obtain ⟨e, ht', hag⟩ := tArr_parts hq
      obtain ⟨_, hsz⟩ := run_isAgg hag w
      rw [hq] at ha
      cases x with
      | ptr id ver a b =>
        simp only at ha
        split at ha
        · rename_i hc
          cases ha
          simp only [Rel] at r
          obtain ⟨g, n0, c0, sz0, hl, rfl⟩ := r
          refine ⟨.pointer (some ⟨g, a * sz0 + b + i.toNat * sz, none⟩), ?_, by simp only [Rel]; exact ⟨g, n0, c0, sz0, hl, by simp [Nat.add_assoc]⟩⟩
          simp [Instr.indexAt, run_underlying ht', Instr.sureAddr, asIntOf, hc, hsz, ptr_add]
        · cases ha
      | iptr cs =>
        simp only at ha
        split at ha
        · rename_i hc
          cases ha
          simp only [Rel] at r
          obtain ⟨b, o, rfl, hp⟩ := r
          refine ⟨.pointer (some ⟨b, o + i.toNat * sz, none⟩), ?_, by simp only [Rel]; exact ⟨b, _, rfl, PCells.drop _ hp⟩⟩
          simp [Instr.indexAt, run_underlying ht', Instr.sureAddr, asIntOf, hc, hsz, ptr_add]
        · cases ha
      | _ => simp at ha

/-- The address of a field. -/
def afld (P : Program) (s : TypeId) (x : AV) (f : Nat) : Option AV :=
  match tField P s f with
  | some (off, _, sz) => if sz = 0 then none else match x with
    | .ptr id ver i j => some (.ptr id ver i (j + off))
    | .iptr cs => some (.iptr (cs.drop off))
    | _ => none
  | none => none

theorem tField_parts {P : Program} {s : TypeId} {f off sz : Nat} {ag : Bool} (h : tField P s f = some (off, ag, sz)) :
    ∃ fs x, P.underlying s = some (.struct fs) ∧ fs[f]? = some x ∧ x.offset = off ∧ tAgg P x.type = some (ag, sz) := by
  unfold tField at h
  cases hd : P.underlying s with
  | none => simp [hd] at h
  | some d =>
    cases d with
    | struct fs =>
      simp only [hd] at h
      cases hf : fs[f]? with
      | none => simp [hf] at h
      | some x =>
        cases ha : tAgg P x.type with
        | none => simp [hf, ha] at h
        | some q => simp [hf, ha] at h; obtain ⟨rfl, rfl, rfl⟩ := h; exact ⟨fs, x, rfl, hf, rfl, ha⟩
    | _ => simp [hd] at h

theorem afld_rel {P : Program} {G : Gh} {w : World} {s : TypeId} {x v : AV} {f : Nat} (ha : afld P s x f = some v) {y : Value} (r : Rel G x y) :
    ∃ u, (Instr.fieldAt s y f).run P w = .ok u w ∧ Rel G v u := by
  unfold afld at ha
  cases hq : tField P s f with
  | none => rw [hq] at ha; cases ha
  | some q =>
    obtain ⟨off, ag, sz⟩ := q
    obtain ⟨fs, fx, hd, hf, rfl, hag⟩ := tField_parts hq
    obtain ⟨_, hsz⟩ := run_isAgg hag w
    rw [hq] at ha
    simp only at ha
    split at ha
    · cases ha
    · rename_i h0
      cases x with
      | ptr id ver i j =>
        cases ha
        simp only [Rel] at r
        obtain ⟨g, n0, c0, sz0, hl, rfl⟩ := r
        refine ⟨.pointer (some ⟨g, i * sz0 + j + fx.offset, none⟩), ?_, by simp only [Rel]; exact ⟨g, n0, c0, sz0, hl, by simp [Nat.add_assoc]⟩⟩
        simp [Instr.fieldAt, run_underlying hd, hf, Instr.sureAddr, fieldPlace, hsz, h0, ptr_add]
      | iptr cs =>
        cases ha
        simp only [Rel] at r
        obtain ⟨b, o, rfl, hp⟩ := r
        refine ⟨.pointer (some ⟨b, o + fx.offset, none⟩), ?_, by simp only [Rel]; exact ⟨b, _, rfl, PCells.drop _ hp⟩⟩
        simp [Instr.fieldAt, run_underlying hd, hf, Instr.sureAddr, fieldPlace, hsz, h0, ptr_add]
      | _ => simp at ha

/-- A part of a struct or an array that lies in a slot. -/
def apart (cs : List AV) (off : Nat) (ag : Bool) (sz : Nat) : Option AV :=
  if ag then (if off + sz ≤ cs.length then some (.agg ((cs.drop off).take sz)) else none) else cs[off]?

theorem apart_rel {P : Program} {G : Gh} {w : World} {t : TypeId} {cs : List AV} {off sz : Nat} {ag : Bool} {v : AV} (hag : tAgg P t = some (ag, sz)) (ha : apart cs off ag sz = some v) {vs : Array Value} (r : RelL G cs vs.toList) :
    ∃ u, (part t vs off).run P w = .ok u w ∧ Rel G v u := by
  obtain ⟨h1, h2⟩ := run_isAgg hag w
  unfold apart at ha
  cases ag with
  | true =>
    simp only [if_true] at ha
    split at ha
    · cases ha
      refine ⟨.agg (vs.extract off (off + sz)), by simp [part, h1, h2], ?_⟩
      simp only [Rel]
      refine ⟨_, rfl, ?_⟩
      have : (vs.extract off (off + sz)).toList = (vs.toList.drop off).take sz := by
        rw [Array.toList_extract, List.extract_eq_take_drop]; congr 1; omega
      rw [this]
      exact RelL.take _ (RelL.drop _ r)
    · cases ha
  | false =>
    simp only [Bool.false_eq_true, if_false] at ha
    obtain ⟨u, hu, hr⟩ := RelL.get off v r ha
    refine ⟨u, ?_, hr⟩
    simp at hu
    simp [part, h1, hu]

end Go.AM
