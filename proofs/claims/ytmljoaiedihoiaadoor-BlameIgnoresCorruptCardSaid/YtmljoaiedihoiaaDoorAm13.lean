/- The operations together. -/
import Derived.Test.YtmljoaiedihoiaaDoorAmEq
namespace Go.AM
set_option linter.unusedVariables false
set_option linter.unusedSimpArgs false
open Go Go.RowKit
set_option linter.unusedSectionVars false
variable [Glob]

theorem build_slice {P : Program} {G : Gh} {h : AHeap} {w : World} (H : HRel G h w) {nm : Nat} (hn : h nm = none) {t e : TypeId} {sz by_ len : Nat} {zs : List Value} (ht : tElem P t = some (e, sz, by_, zs)) (hzl : zs.length = sz)
    (hlim : len * sz ≤ 16777216) (hlen : len ≤ 16777216) (hone : zs.all Value.oneCell' = true) {parts : List (Nat × AV)} {out : List AV} (ha : afill (fun i => some (i * sz, sz)) (List.replicate len (pv zs)).flatten parts = some out)
    {es : List (List AV)} (hes : es.flatten = out) (hel : es.length = len) (hsz : ∀ x ∈ es, x.length = sz) (ho1 : out.all AV.one = true)
    {vparts : List (Nat × Value)} (hr : RelL G (parts.map (·.2)) (vparts.map (·.2))) (hi : parts.map (·.1) = vparts.map (·.1)) :
    ∃ u G' w', (Instr.buildSlice t len vparts.toArray).run P w = .ok u w' ∧ G.Le G' ∧ HRel G' (hp h [(nm, .row 0 e sz es)]) w' ∧ Rel G' (.own nm 0 0 len) u := by
  obtain ⟨i, z, ht', hinf, hz', hs, hb, hzc⟩ := tElem_parts ht
  have hz1 : z.cells.toList.length = sz := by rw [hzc]; exact hzl
  have hzz : z.cells = zs.toArray := by rw [← hzc]
  have hmk : (madeCells z.cells (len * sz)).toList = (List.replicate len zs).flatten := by rw [hzz, ← hzl]; exact toList_madeCells zs len
  have hrep : (List.replicate len (pv zs)).flatten = ((List.replicate len zs).flatten).map fun v => AV.p (.v v) := by rw [List.map_flatten, List.map_replicate]; rfl
  obtain ⟨o, hfill, hro⟩ := afill_rel (cv := madeCells z.cells (len * sz)) (vparts := vparts) ha (by rw [hmk, hrep]; exact pv_rel _) hr hi
  have hall : ∀ c ∈ out, c.one = true := by simpa using ho1
  have hol := hro.length
  have hfl := flatten_len hsz
  rw [hes, hel] at hfl
  have hosz : o.size = len * sz := by rw [← Array.length_toList]; omega
  have how := World.ownsRow_lit (base := G.w0.heap.size) (e := e) w o len H.below.size (by simp [maxLen]; omega) hosz
  obtain ⟨G', l, hh, rr⟩ := new_row H hn (World.grownBy_alloc w _ none) how (es := es) (by rw [hes]; exact hro) hsz hel (RelL.one hro hall)
  refine ⟨_, G', _, ?_, l, hh, rr⟩
  have hlim' : ¬ (16777216 < len * sz) := by omega
  by_cases h0 : len * sz = 0
  · have hmz : madeCells z.cells (len * sz) = #[] := by rw [h0]; simp [madeCells]
    rw [hmz] at hfill
    rw [h0] at hlim'
    have e0 : Array.map (fun _ : Nat => (default : Value)) (Array.range 0) = #[] := by simp [Array.range_zero']
    simp [Instr.buildSlice, run_underlying ht', sizeOf, typeInfo, hinf, hs, h0, e0, hfill, newRow]
  · have hfill' : Instr.fill (fun i => some (i * sz, sz)) ((Array.range (len * sz)).map (z.cells[· % z.cells.size]!)) vparts = some o := hfill
    simp [Instr.buildSlice, run_underlying ht', sizeOf, typeInfo, zeroValue, hinf, hs, hz', h0, hlim', hfill', newRow]

/-- Elements of sz cells each. -/
def chunks {α : Type} (sz : Nat) : Nat → List α → List (List α)
  | 0, _ => []
  | n + 1, l => l.take sz :: chunks sz n (l.drop sz)

theorem chunks_flat {α : Type} (sz : Nat) : ∀ (n : Nat) (l : List α), l.length = n * sz → (chunks sz n l).flatten = l ∧ (chunks sz n l).length = n ∧ ∀ x ∈ chunks sz n l, x.length = sz
  | 0, l, h => by
    have : l = [] := List.eq_nil_of_length_eq_zero (by simpa using h)
    subst this; simp [chunks]
  | n + 1, l, h => by
    rw [Nat.succ_mul] at h
    obtain ⟨h1, h2, h3⟩ := chunks_flat sz n (l.drop sz) (by rw [List.length_drop]; omega)
    refine ⟨by simp only [chunks, List.flatten_cons, h1, List.take_append_drop], by simp [chunks, h2], fun x hx => ?_⟩
    simp only [chunks] at hx
    cases hx with
    | head => rw [List.length_take]; omega
    | tail _ hx => exact h3 x hx

/-- A slice of bytes? -/
def tBytes (P : Program) (t : TypeId) : Bool := match tElem P t with
  | some (e, 1, _, _) => match P.underlying e with | some (.int .u8) => true | _ => false
  | _ => false
/-- The bytes of a row. -/
def abytes (es : List (List AV)) : Option ByteArray :=
  if es.all (fun c => match c with | [.p (.v (.int .u8 _))] => true | _ => false) = true then
      some (es.foldl (fun r c => match c with | [.p (.v (.int .u8 n))] => r.push (UInt8.ofNat n.toNat) | _ => r) ByteArray.empty) else none

abbrev Eff := List (Nat × Blk) × List (Nat × Blk) × AV

/-- A block that a value names. -/
def ablk (h : AHeap) : AV → List (Nat × Blk)
  | .own id _ _ _ => match h id with | some k => [(id, k)] | none => []
  | .ptr id _ _ _ => match h id with | some k => [(id, k)] | none => []
  | _ => []

/-- A row that a value names. -/
def ablko (h : AHeap) : AV → List (Nat × Blk)
  | .own id _ _ _ => match h id with | some k => [(id, k)] | none => []
  | _ => []

def abuiltin (P : Program) (h : AHeap) (nm : Nat) (b : Builtin) (ts : List TypeId) (args : List AV) : Option Eff :=
  match b, ts, args with
  | .len, [t], [x] =>
    match tLen P t with
    | some n => some ([], [], .p (.v (.int .i64 n)))
    | none => match tElem P t with
      | some _ => (alen x).map fun (n : Nat) => ([], [], .p (.v (.int .i64 (n : Int))))
      | none => if tStr P t = true then (match x.val with | some (.string s) => some ([], [], .p (.v (.int .i64 (s.size : Int)))) | _ => none) else none
  | .append, [t, t'], [s, x] => if t' = t then (aapp P h nm t s x).map fun q => (q.1 ++ ablko h x, q.2.1, q.2.2) else none
  | .max, _, [x, y] => match x.val, y.val with
    | some (.int k a), some (.int k' b) => if k = k' then some ([], [], .p (.v (.int k (if b > a then b else a)))) else none
    | _, _ => none
  | .min, _, [x, y] => match x.val, y.val with
    | some (.int k a), some (.int k' b) => if k = k' then some ([], [], .p (.v (.int k (if b < a then b else a)))) else none
    | _, _ => none
  | _, _, _ => none

/-- '==' and '!=' of what is no number. -/
def aeqx (P : Program) (o : BinOp) (t : TypeId) (x y : AV) : Option Eff :=
  match o with
  | .eql => (aeqv P t x y).map fun b => ([], [], .p (.v (.bool b)))
  | .neq => (aeqv P t x y).map fun b => ([], [], .p (.v (.bool !b)))
  | _ => none

theorem aeqx_some {P : Program} {o : BinOp} {t : TypeId} {x y : AV} {rd wr : List (Nat × Blk)} {v : AV} (h : aeqx P o t x y = some (rd, wr, v)) : rd = [] ∧ wr = [] ∧ ∃ r, aeqv P t x y = some r ∧ ((o = .eql ∧ v = .p (.v (.bool r))) ∨ (o = .neq ∧ v = .p (.v (.bool !r)))) := by
  unfold aeqx at h
  split at h
  · simp only [Option.map_eq_some_iff, Prod.mk.injEq] at h
    obtain ⟨r, h1, h2, h3, h4⟩ := h
    exact ⟨h2.symm, h3.symm, r, h1, .inl ⟨rfl, h4.symm⟩⟩
  · simp only [Option.map_eq_some_iff, Prod.mk.injEq] at h
    obtain ⟨r, h1, h2, h3, h4⟩ := h
    exact ⟨h2.symm, h3.symm, r, h1, .inr ⟨rfl, h4.symm⟩⟩
  · cases h

/-- An operation that is no call of a Go function: what it reads and writes, and its value. -/
def aexec (P : Program) (op : Op) (ev : Operand → AV) (h : AHeap) (nm : Nat) : Option Eff :=
  match op with
  | .move x | .assign x => some ([], [], ev x)
  | .pick c a b => match (ev c).val with
    | some (.bool t) => some ([], [], if t then ev a else ev b)
    | _ => none
  | .alloc e => match tZero P e with
    | some zs => if zs.all Value.oneCell' = true then some ([], [(nm, .row 0 e (pv zs).length [pv zs])], .ptr nm 0 0 0) else none
    | none => none
  | .box e x => if (cellsOf (ev x)).all AV.one = true then some ([], [(nm, .row 0 e (cellsOf (ev x)).length [cellsOf (ev x)])], .ptr nm 0 0 0) else none
  | .build t parts => (abuild P t (parts.toList.map fun p => (p.1, ev p.2))).map fun v => ([], [], v)
  | .buildSlice t len parts => match tElem P t with
    | some (e, sz, _, zs) =>
      if zs.length = sz ∧ len * sz ≤ 16777216 ∧ len ≤ 16777216 ∧ zs.all Value.oneCell' = true then
        match afill (fun i => some (i * sz, sz)) (List.replicate len (pv zs)).flatten (parts.toList.map fun p => (p.1, ev p.2)) with
        | some out => if out.length = len * sz ∧ out.all AV.one = true then some ([], [(nm, .row 0 e sz (chunks sz len out))], .own nm 0 0 len) else none
        | none => none
      else none
    | none => none
  | .load t x => (aload P h t (ev x)).map fun v => (ablk h (ev x), [], v)
  | .store t x v => (astore P h t (ev x) (ev v)).map fun q => ([(q.1, q.2.1)], [(q.1, q.2.2)], .p (.v undef))
  | .nilCheck x => match ev x with
    | .ptr id ver i j => some ([], [], .ptr id ver i j)
    | .iptr cs => some ([], [], .iptr cs)
    | .fn (.func f) a b => some ([], [], .fn (.func f) a b)
    | _ => none
  | .binOp o t x y _ => match (ev x).val, (ev y).val with
    | some a, some b => match abin o a b with
      | some u => some ([], [], .p (.v u))
      | none => aeqx P o t (ev x) (ev y)
    | _, _ => aeqx P o t (ev x) (ev y)
  | .unOp .not _ x => match (ev x).val with
    | some (.bool b) => some ([], [], .p (.v (.bool !b)))
    | _ => none
  | .convert s d x => match tKind P s, tKind P d, (ev x).val with
    | some _, some k, some (.int _ n) => some ([], [], .p (.v (.int k (k.wrap n))))
    | _, _, _ => if tStr P d = true ∧ tBytes P s = true then (match asrc h 1 (ev x) with
        | some es => (abytes es).map fun b => (ablko h (ev x), [], .p (.v (.string b)))
        | none => none) else none
  | .makeFunc f a b => some ([], [], .fn f (a.toList.map ev) (b.toList.map ev))
  | .makeSlice t l c => match tElem P t, (ev l).val, (ev c).val with
    | some (e, sz, by_, zs), some (.int _ n), some (.int _ m) =>
      if zs.length = sz ∧ zs.all Value.oneCell' = true ∧ by_ ≤ 1000 ∧ 0 ≤ n ∧ Small n.toNat ∧ m = n then some ([], [(nm, .row 0 e sz (List.replicate n.toNat (pv zs)))], .own nm 0 0 n.toNat) else none
    | _, _, _ => none
  | .slice t x lo hi mx => if mx.isSome = true → hi.isSome = true then
      (match tElem P t with
        | some _ => (aslice P h t (ev x) (lo.map ev) (hi.map ev) (mx.map ev)).map fun v => (ablko h (ev x), [], v)
        | none => if mx.isSome = true then none else (aslx P t (ev x) (lo.map ev) (hi.map ev)).map fun v => ([], [], v))
      else none
  | .fieldAddr s x f => (afld P s (ev x) f).map fun v => ([], [], v)
  | .field s x f => match tField P s f, ev x with
    | some (off, ag, sz), .agg cs => (apart cs off ag sz).map fun v => ([], [], v)
    | _, _ => none
  | .indexAddr t x i => match (ev i).val with
    | some (.int _ n) => (aidx P h t (ev x) n).map fun v => (ablko h (ev x), [], v)
    | _ => none
  | .index t x i => match (ev i).val with
    | some (.int _ n) => match tArr P t with
      | some (len, sz, ag) => match ev x with
        | .agg cs => if 0 ≤ n ∧ n < len then (apart cs (n.toNat * sz) ag sz).map fun v => ([], [], v) else none
        | _ => none
      | none => match (ev x).val with
        | some (.string s) => if tStr P t = true ∧ 0 ≤ n then (s[n.toNat]?).map fun b => ([], [], .p (.v (.int .u8 b.toNat))) else none
        | _ => none
    | _ => none
  | .extract x i => match ev x with
    | .tup cs => (cs[i]?).map fun v => ([], [], v)
    | _ => none
  | .call { callee := .builtin b, args, argTypes } => abuiltin P h nm b argTypes.toList (args.toList.map ev)
  | _ => none

/-- The machine does it. -/
def OpRun (P : Program) (o : Oper) (a : Act) (w : World) (G : Gh) (h : AHeap) (wr : List (Nat × Blk)) (v : AV) : Prop :=
  ∃ u G' w', ((execOp a.eval o).run P w = .ok (.value u) w' ∨ ((execOp a.eval o).run P w = .ok .skip w' ∧ u = undef)) ∧ G.Le G' ∧ HRel G' (hp h wr) w' ∧ Rel G' v u

end Go.AM
