/- Functions: what a call of one comes to. Regions, one operation after the other. -/
import Derived.Test.YtmljoaiedihoiaaDoorAm14
namespace Go.AM
set_option linter.unusedVariables false
set_option linter.unusedSimpArgs false
open Go Go.RowKit
set_option linter.unusedSectionVars false
variable [Glob]

/-- A call with these values over this heap returns a value and leaves a heap of which Q holds. -/
def ACalls (P : Program) (f : FuncId) (args : List AV) (h : AHeap) (Q : AV → AHeap → Prop) : Prop :=
  ∀ G w (vs : List Value), HRel G h w → RelL G args vs → Calls P f vs.toArray w fun e w' => ∃ v G' r h', e = .returned v ∧ G.Le G' ∧ HRel G' h' w' ∧ Rel G' r v ∧ Q r h'

theorem ACalls.mono {P : Program} {f : FuncId} {args : List AV} {h : AHeap} {Q Q' : AV → AHeap → Prop} (H : ACalls P f args h Q) (hq : ∀ r h', Q r h' → Q' r h') : ACalls P f args h Q' :=
  fun G w vs hh hr => (H G w vs hh hr).mono fun _ _ ⟨v, G', r, h', e, l, x, y, q⟩ => ⟨v, G', r, h', e, l, x, y, hq _ _ q⟩

def argSlots : Nat → List AV → Slots
  | _, [] => []
  | i, x :: xs => (i, x) :: argSlots (i + 1) xs

/-- What is read out of the slots at the end. -/
def ares1 (P : Program) (t : Slots) (h : AHeap) : ResultVar → Option AV
  | .tmp i => some (look t i)
  | .cell i ty => aload P h ty (look t i)

def aresL (P : Program) (t : Slots) (h : AHeap) : List ResultVar → Option (List AV)
  | [] => some []
  | x :: r => match ares1 P t h x, aresL P t h r with
    | some v, some vs => some (v :: vs)
    | _, _ => none

def ares (P : Program) (t : Slots) (h : AHeap) (rs : List ResultVar) : Option AV :=
  match aresL P t h rs with
  | some [v] => some v
  | some vs => some (.tup vs)
  | none => none

theorem ares1_run {P : Program} {N : Nat} {G : Gh} {t : Slots} {h : AHeap} {a : Act} {w : World} (st : StRel N G t h a w) {x : ResultVar} {v : AV} (hx : ares1 P t h x = some v) :
    ∃ u, (match x with | .tmp i => pure (a.tmps.getD i undef) | .cell i ty => do loadVar ty (← asAddr (a.tmps.getD i undef)) : Sem Value).run P w = .ok u w ∧ Rel G v u := by
  cases x with
  | tmp i => simp only [ares1] at hx; cases hx; exact ⟨_, rfl, st.slots i⟩
  | cell i ty =>
    simp only [ares1] at hx
    obtain ⟨u, h1, h2⟩ := aload_rel st.heap hx (st.slots i)
    refine ⟨u, ?_, h2⟩
    simp only [Sem.run_bind]
    unfold Instr.loadAt at h1
    generalize a.tmps.getD i undef = y at h1
    cases y with
    | pointer p =>
      cases p with
      | none => simp [Instr.sureAddr] at h1
      | some q => simpa [Instr.sureAddr, asAddr] using h1
    | _ => simp [Instr.sureAddr] at h1

theorem aresL_run {P : Program} {N : Nat} {G : Gh} {t : Slots} {h : AHeap} {a : Act} {w : World} (st : StRel N G t h a w) : ∀ {rs : List ResultVar} {vs : List AV}, aresL P t h rs = some vs →
    ∃ us, (rs.mapM fun x => (match x with | .tmp i => pure (a.tmps.getD i undef) | .cell i ty => do loadVar ty (← asAddr (a.tmps.getD i undef)) : Sem Value)).run P w = .ok us w ∧ RelL G vs us
  | [], vs, hx => by simp only [aresL] at hx; cases hx; exact ⟨[], by simp, by simp [RelL]⟩
  | x :: rs, vs, hx => by
    simp only [aresL] at hx
    cases h1 : ares1 P t h x with
    | none => rw [h1] at hx; simp at hx
    | some v =>
      cases h2 : aresL P t h rs with
      | none => rw [h1, h2] at hx; simp at hx
      | some vs' =>
        rw [h1, h2] at hx
        cases hx
        obtain ⟨u, r1, r2⟩ := ares1_run st h1
        obtain ⟨us, r3, r4⟩ := aresL_run st h2
        refine ⟨u :: us, ?_, by simp only [RelL]; exact ⟨r2, r4⟩⟩
        rw [List.mapM_cons, Sem.run_bind, r1, Result.andThen_ok, Sem.run_bind, r3, Result.andThen_ok]
        rfl

theorem ares_run {P : Program} {N : Nat} {G : Gh} {t : Slots} {h : AHeap} {a : Act} {w : World} {fn : Func} (st : StRel N G t h a w) {v : AV} (hx : ares P t h fn.results.toList = some v) :
    ∃ u, (results fn a.tmps).run P w = .ok u w ∧ Rel G v u := by
  unfold ares at hx
  cases hl : aresL P t h fn.results.toList with
  | none => rw [hl] at hx; simp at hx
  | some vs =>
    obtain ⟨us, r1, r2⟩ := aresL_run st hl
    have hrun : (fn.results.mapM fun x => (match x with | .tmp i => pure (a.tmps.getD i undef) | .cell i ty => do loadVar ty (← asAddr (a.tmps.getD i undef)) : Sem Value)).run P w = .ok us.toArray w := by
      rw [Array.mapM_eq_mapM_toList, Sem.run_map, r1]; rfl
    rw [hl] at hx
    have hlen := r2.length
    have key : (results fn a.tmps).run P w = .ok (if h : us.toArray.size = 1 then us.toArray[0] else .tuple us.toArray) w := by
      unfold results
      rw [Sem.run_bind]
      exact (congrArg (fun z => Result.andThen z (fun (vs : Array Value) w' => Sem.run P (pure (if h : vs.size = 1 then vs[0] else .tuple vs) : Sem Value) w')) hrun).trans rfl
    refine ⟨_, key, ?_⟩
    match vs, us, hx, r2, hlen with
    | [x], [u], hx, r2, _ => simp only at hx; cases hx; simp only [RelL] at r2; simpa using r2.1
    | [], [], hx, r2, _ => simp only at hx; cases hx; simp only [Rel]; exact ⟨#[], by simp, by simp [RelL]⟩
    | x :: y :: vs, u :: v :: us, hx, r2, _ =>
      simp only at hx; cases hx; simp only [Rel]
      exact ⟨(u :: v :: us).toArray, by simp, r2⟩
    | [_], [], _, _, h => simp at h
    | [_], _ :: _ :: _, _, _, h => simp at h
    | [], _ :: _, _, _, h => simp at h
    | _ :: _ :: _, [], _, _, h => simp at h
    | _ :: _ :: _, [_], _, _, h => simp at h

theorem look_args {G : Gh} : ∀ {args : List AV} {vs : List Value} (i : Nat), RelL G args vs → ∀ (T : Array Value) , (∀ (j : Nat) (v : Value), vs[j]? = some v → T.getD (i + j) undef = v) → ∀ k, Rel G (look (argSlots i args) k) (T.getD k undef)
  | [], _, _, _, _, _, _ => by simp [argSlots, look, Rel]
  | a :: as, [], _, h, _, _, _ => by simp [RelL] at h
  | a :: as, v :: vs, i, h, T, hT, k => by
    simp only [RelL] at h
    simp only [argSlots, look]
    split
    · rename_i e; subst e
      rw [show k = k + 0 by omega, hT 0 v rfl]; exact h.1
    · exact look_args (i + 1) h.2 T (fun j u hu => by have := hT (j + 1) u (by simpa using hu); rwa [show i + 1 + j = i + (j + 1) by omega]) k

/-- What a function's body must come to. -/
def aend (P : Program) (F : AHeap) (rs : List ResultVar) (Q : AV → AHeap → Prop) : APost
  | .normal, t, h => ∃ r r' h', ares P t h rs = some r ∧ WeakL F [r] h [r'] h' ∧ Q r' h'
  | .ret, t, h => ∃ r r' h', ares P t h rs = some r ∧ WeakL F [r] h [r'] h' ∧ Q r' h'
  | _, _, _ => False

theorem acalls_of {P : Program} {f : FuncId} {fn : Func} {c : Code} {args : List AV} {F : AHeap} {Q : AV → AHeap → Prop} {N : Nat} (hf : P.funcs[f]? = some fn) (hb : fn.body = some c) (hN : fn.ntmps = N) (hl : args.length ≤ N)
    (H : AWp P N F c (aend P F fn.results.toList Q) (argSlots 0 args) F) : ACalls P f args F Q := by
  intro G w vs hh hr
  have hlen := hr.length
  refine calls_of_wp hf hb ?_
  have st : StRel N G (argSlots 0 args) F { tmps := vs.toArray ++ Array.replicate (fn.ntmps - vs.toArray.size) undef, defers := [] } w := by
    refine ⟨by simp; omega, rfl, ?_, hh⟩
    refine look_args 0 hr _ fun j v hv => ?_
    have hj : j < vs.length := (List.getElem?_eq_some_iff.1 hv).1
    rw [Nat.zero_add, Array.getD_eq_getD_getElem?, Array.getElem?_append_left (by simpa using hj)]
    simp [hv]
  refine wp_mono (H G G _ w ⟨w, hh⟩ (.refl G) st) ?_
  intro e a' w' ⟨G', t', h', l, s, q⟩
  cases e with
  | normal =>
    obtain ⟨r, r', h2, hres, hw, hq⟩ := q
    obtain ⟨u, h3, h4⟩ := ares_run (fn := fn) s hres
    obtain ⟨G2, l2, hh2, hr2⟩ := hw G G' w' [u] ⟨w, hh⟩ l s.heap (by simp only [RelL]; exact ⟨h4, trivial⟩)
    simp only [RelL] at hr2
    exact ⟨s.defers, u, h3, u, G2, r', h2, rfl, l2, hh2, hr2.1, hq⟩
  | ret =>
    obtain ⟨r, r', h2, hres, hw, hq⟩ := q
    obtain ⟨u, h3, h4⟩ := ares_run (fn := fn) s hres
    obtain ⟨G2, l2, hh2, hr2⟩ := hw G G' w' [u] ⟨w, hh⟩ l s.heap (by simp only [RelL]; exact ⟨h4, trivial⟩)
    simp only [RelL] at hr2
    exact ⟨s.defers, u, h3, u, G2, r', h2, rfl, l2, hh2, hr2.1, hq⟩
  | exit id => exact q.elim
  | goto l' => exact q.elim
  | panic ch => exact q.elim
  | outgrown => exact q.elim

/-! ### Regions -/

/-- Does the operation come up? -/
def awanted (ops : List Oper) (t : Slots) (o : Oper) : Option Bool :=
  match o.guard with
  | none => some true
  | some (j, want) => match (ops[j]?).bind (·.dst) with
    | some d => match (look t d).val with
      | some (.bool b) => some (b == want)
      | some (.tuple _) => some false
      | _ => none
    | none => none

theorem awanted_run {N : Nat} {G : Gh} {t : Slots} {h : AHeap} {a : Act} {w : World} (st : StRel N G t h a w) {ops : List Oper} {o : Oper} {b : Bool} (hw : awanted ops t o = some b) : Region.wanted o (yielded ops.toArray a.tmps) = b := by
  unfold awanted at hw
  unfold Region.wanted
  cases hg : o.guard with
  | none => rw [hg] at hw; cases hw; rfl
  | some q =>
    obtain ⟨j, want⟩ := q
    rw [hg] at hw
    simp only at hw ⊢
    cases hd : (ops[j]?).bind (·.dst) with
    | none => rw [hd] at hw; cases hw
    | some d =>
      rw [hd] at hw
      simp only at hw
      split at hw
      · rename_i b' hv
        cases hw
        have := AV.val_rel hv (st.slots d)
        have hy : yielded ops.toArray a.tmps j = some b' := by
          unfold yielded
          have e1 : (ops.toArray[j]?).bind (·.dst) = some d := by simpa using hd
          rw [e1]
          simp only [Option.bind_some]
          have hget : a.tmps[d]? = some (.bool b') := by
            rw [Array.getD_eq_getD_getElem?] at this
            cases hq : a.tmps[d]? with
            | none => rw [hq] at this; simp [undef] at this
            | some y => rw [hq] at this; simp at this; rw [this]
          rw [hget]
        rw [hy]
        cases b' <;> cases want <;> rfl
      · rename_i z hv
        cases hw
        have := AV.val_rel hv (st.slots d)
        have hy : yielded ops.toArray a.tmps j = none := by
          unfold yielded
          have e1 : (ops.toArray[j]?).bind (·.dst) = some d := by simpa using hd
          rw [e1]
          simp only [Option.bind_some]
          cases hq : a.tmps[d]? with
          | none => rfl
          | some y =>
            rw [Array.getD_eq_getD_getElem?, hq] at this
            simp only [Option.getD_some] at this
            rw [this]
        rw [hy]
        cases want <;> rfl
      · cases hw

/-- The operations of a region that are left. -/
def ASeq (P : Program) (N : Nat) (h0 : AHeap) (ops : List Oper) (Q : APost) (rest : List Oper) (t : Slots) (h : AHeap) : Prop :=
  ∀ G0 G a w, Anchor G0 h0 → G0.Le G → StRel N G t h a w → wpList P ops.toArray (fun e a' w' => ∃ G' t' h', G0.Le G' ∧ StRel N G' t' h' a' w' ∧ Q e t' h') rest a w

section
variable {P : Program} {N : Nat} {h0 : AHeap} {Q : APost} {t : Slots} {h : AHeap} {ops rest : List Oper} {o : Oper}

theorem awp_region {id : Nat} (H : ASeq P N h0 ops Q ops t h) : AWp P N h0 (.region id ops.toArray false) Q t h :=
  fun G0 G a w ha hl st => wp_region_list (by simpa using H G0 G a w ha hl st)

theorem aseq_nil (H : Q .normal t h) : ASeq P N h0 ops Q [] t h := fun _ G _ _ _ hl st => ⟨G, t, h, hl, st, H⟩

theorem aseq_weak {t' : Slots} {h' : AHeap} (hw : Weak N h0 t h t' h') (H : ASeq P N h0 ops Q rest t' h') : ASeq P N h0 ops Q rest t h :=
  fun G0 G a w ha hl st => let ⟨G', l', st'⟩ := hw G0 G a w ha hl st; H G0 G' a w ha l' st'

theorem aseq_skip (hw : awanted ops t o = some false) (hf : fits N o.dst = true) (H : ASeq P N h0 ops Q rest (aput t o.dst (.p (.v undef))) h) : ASeq P N h0 ops Q (o :: rest) t h := by
  intro G0 G a w ha hl st
  unfold wpList
  rw [if_neg (by rw [awanted_run st hw]; simp)]
  exact H G0 G _ w ha hl (st.put (.refl G) st.heap hf rel_val)

theorem oper_wp_of_run {a : Act} {w : World} {G : Gh} {wr : List (Nat × Blk)} {v : AV} (H : OpRun P o a w G h wr v) {K : Act → World → Prop} {Q' : Exit → Act → World → Prop}
    (hK : ∀ u G' w', G.Le G' → HRel G' (hp h wr) w' → Rel G' v u → K (a.put o.dst u) w') : o.wp P a w K Q' := by
  obtain ⟨u, G', w', hr, h1, h2, h3⟩ := H
  unfold Oper.wp
  rcases hr with hr | ⟨hr, rfl⟩
  · rw [hr]; exact hK u G' w' h1 h2 h3
  · rw [hr]; exact hK undef G' w' h1 h2 h3

theorem aseq_step {rd wr : List (Nat × Blk)} {v : AV} (nm : Nat) (hw : awanted ops t o = some true) (hf : fits N o.dst = true) (hn : h nm = none) (hx : aexec P o.op (aev t) h nm = some (rd, wr, v))
    (H : ASeq P N h0 ops Q rest (aput t o.dst v) (hp h wr)) : ASeq P N h0 ops Q (o :: rest) t h := by
  intro G0 G a w ha hl st
  unfold wpList
  rw [if_pos (awanted_run st hw)]
  exact .inl (oper_wp_of_run (aexec_run st.heap (fun _ _ _ => hn) st.ev hx) fun u G' w' l hh hv => H G0 G' _ w' ha (hl.trans l) (st.put l hh hf hv))

/-- What a call calls. -/
def acallee (t : Slots) (c : Call) : Option (FuncId × List AV) :=
  match c.callee with
  | .value f => match aev t f with
    | .p (.v (.func (.func k) x y)) => some (k, pv x.toList ++ c.args.toList.map (aev t) ++ pv y.toList)
    | .fn (.func k) first cap => some (k, first ++ c.args.toList.map (aev t) ++ cap)
    | _ => none
  | _ => none

def callable (P : Program) (f : FuncId) : Bool :=
  match P.funcs[f]? with
  | some fn => fn.name != "runtime.NumGoroutine" && fn.body.isSome
  | none => false

theorem acallee_run {G : Gh} {a : Act} {w : World} (he : ∀ x, Rel G (aev t x) (a.eval x)) {c : Call} (hc : o.op = .call c) {f : FuncId} {args : List AV} (hx : acallee t c = some (f, args)) (hp' : callable P f = true) :
    ∃ vs : List Value, (execOp a.eval o).run P w = .ok (.enter f vs.toArray) w ∧ RelL G args vs := by
  unfold callable at hp'
  cases hfn : P.funcs[f]? with
  | none => simp [hfn] at hp'
  | some fn =>
    simp only [hfn, Bool.and_eq_true, bne_iff_ne, ne_eq] at hp'
    have hcall : ∀ (vs : Array Value), (callFunc f vs).run P w = .ok (.enter f vs) w := by
      intro vs
      have hb : ¬ (fn.body.isNone = true) := by cases hb : fn.body <;> simp [hb] at hp' ⊢
      have hb2 : fn.body ≠ none := by simpa using hb
      simp [callFunc, hfn, hp'.1, hb2]
    unfold acallee at hx
    obtain ⟨callee, cargs, at_⟩ := c
    cases callee with
    | value g =>
      simp only at hx
      have hg := he g
      split at hx
      · rename_i k v1 v2 e1
        cases hx
        rw [e1] at hg
        simp only [Rel, PRel] at hg
        refine ⟨v1.toList ++ cargs.toList.map a.eval ++ v2.toList, ?_, RelL.append (RelL.append (pv_rel _) (relL_map he _)) (pv_rel _)⟩
        have e2 : (v1.toList ++ cargs.toList.map a.eval ++ v2.toList).toArray = v1 ++ cargs.map a.eval ++ v2 := by apply Array.ext'; simp
        rw [e2]
        simp only [execOp, hc, resolve, hg, Deferred.ofValue, Sem.run_bind, Sem.run_pure, Result.andThen_ok, invoke, hcall]
      · rename_i k first cap e1
        cases hx
        rw [e1] at hg
        simp only [Rel] at hg
        obtain ⟨v1, v2, hg, r1, r2⟩ := hg
        refine ⟨v1.toList ++ cargs.toList.map a.eval ++ v2.toList, ?_, RelL.append (RelL.append r1 (relL_map he _)) r2⟩
        have e2 : (v1.toList ++ cargs.toList.map a.eval ++ v2.toList).toArray = v1 ++ cargs.map a.eval ++ v2 := by apply Array.ext'; simp
        rw [e2]
        simp only [execOp, hc, resolve, hg, Deferred.ofValue, Sem.run_bind, Sem.run_pure, Result.andThen_ok, invoke, hcall]
      · cases hx
    | _ => simp at hx

theorem aseq_call {c : Call} {f : FuncId} {args : List AV} {R : AV → AHeap → Prop} (hc : o.op = .call c) (hw : awanted ops t o = some true) (hf : fits N o.dst = true) (hx : acallee t c = some (f, args)) (hp' : callable P f = true)
    (HC : ACalls P f args h R) (H : ∀ r h', R r h' → ASeq P N h0 ops Q rest (aput t o.dst r) h') : ASeq P N h0 ops Q (o :: rest) t h := by
  intro G0 G a w ha hl st
  unfold wpList
  rw [if_pos (awanted_run st hw)]
  refine .inl ?_
  obtain ⟨vs, hr, hrel⟩ := acallee_run (P := P) (w := w) st.ev hc hx hp'
  unfold Oper.wp
  rw [hr]
  show Calls P f vs.toArray w _
  refine (HC G w vs st.heap hrel).mono ?_
  rintro e w' ⟨v, G', r, h', rfl, l, hh, hv, hq⟩
  exact H r h' hq G0 G' _ w' ha (hl.trans l) (st.put l hh hf hv)

end
end Go.AM
