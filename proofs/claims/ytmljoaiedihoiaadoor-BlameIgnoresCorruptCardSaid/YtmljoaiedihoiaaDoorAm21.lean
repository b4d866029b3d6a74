/- Drawn regions, computed; calls in them. -/
import Derived.Test.YtmljoaiedihoiaaDoorAm20
namespace Go.AM
set_option linter.unusedVariables false
set_option linter.unusedSimpArgs false
open Go Go.RowKit
set_option linter.unusedSectionVars false
variable [Glob]

/-- A function that leaves memory as it was. -/
def Pure (P : Program) (f : FuncId) (args : List AV) (v : AV) : Prop := ∀ F n, Fresh F [] n → ACalls P f args F (fun r h' => h' = F ∧ r = v)

/-- A function that reads the blocks rd and leaves wr in their place. -/
def Does (P : Program) (f : FuncId) (args : List AV) (rd wr : Locs) (v : AV) : Prop :=
  ∀ F n, Fresh F [] n → (∀ p ∈ rd, F p.1 = some p.2) → ACalls P f args F (fun r h' => h' = hp F wr ∧ r = v)

theorem Pure.does {P : Program} {f : FuncId} {args : List AV} {v : AV} (H : Pure P f args v) : Does P f args [] [] v := fun F n hf _ => H F n hf

def stepE (P : Program) (N : Nat) (F : AHeap) (ops : List Oper) (o : Oper) : Option (St × List Ef) → Option (St × List Ef)
  | some ((t, L, n), es) => fin o es ((t, L, n), awanted ops t o, aexec P o.op (aev t) (hp F L) n)
  | none => none
where
  fin (o : Oper) (es : List Ef) : St × Option Bool × Option Eff → Option (St × List Ef)
  | ((t, L, n), some true, some r) => if fits N o.dst then some ((aput t o.dst r.2.2, r.2.1 ++ L, if makes o.op then n + 1 else n), es ++ [⟨true, r.1, r.2.1, r.2.2⟩]) else none
  | ((t, L, n), some false, _) => if fits N o.dst then some ((aput t o.dst (.p (.v undef)), L, n), es ++ [⟨false, [], [], .p (.v undef)⟩]) else none
  | _ => none

def runE (P : Program) (N : Nat) (F : AHeap) (ops : List Oper) : List Oper → Option (St × List Ef) → Option (St × List Ef)
  | [], s => s
  | o :: rest, s => runE P N F ops rest (stepE P N F ops o s)

theorem runE_none {P : Program} {N : Nat} {F : AHeap} {ops : List Oper} : ∀ (l : List Oper), runE P N F ops l none = none
  | [] => rfl
  | o :: l => by simp only [runE, stepE]; exact runE_none l

theorem aexec_nowr {P : Program} {op : Op} {ev : Operand → AV} {h : AHeap} {nm : Nat} {rd wr : Locs} {v : AV} (hx : aexec P op ev h nm = some (rd, wr, v)) (hm : mayWrite op = false) : wr = [] := by
  cases op with
  | call c =>
    obtain ⟨callee, args, ats⟩ := c
    cases callee with
    | builtin b =>
      simp only [aexec] at hx
      unfold abuiltin at hx
      split at hx
      · (repeat' split at hx) <;> first | (cases hx; done) | (cases hx; rfl) | (rw [Option.map_eq_some_iff] at hx; obtain ⟨n, _, hx⟩ := hx; cases hx; rfl)
      · simp [mayWrite] at hm
      · (repeat' split at hx) <;> first | (cases hx; done) | (cases hx; rfl)
      · (repeat' split at hx) <;> first | (cases hx; done) | (cases hx; rfl)
      · cases hx
    | _ => simp [aexec] at hx
  | unOp o t x => cases o <;> simp only [aexec] at hx <;> first | (cases hx; done) | ((repeat' split at hx) <;> first | (cases hx; done) | (cases hx; rfl))
  | alloc => simp [mayWrite, makes] at hm
  | box => simp [mayWrite, makes] at hm
  | buildSlice => simp [mayWrite, makes] at hm
  | makeSlice => simp [mayWrite, makes] at hm
  | store => simp [mayWrite] at hm
  | _ =>
    simp only [aexec] at hx
    (repeat' split at hx) <;> first
      | (cases hx; done)
      | (cases hx; rfl)
      | (exact (aeqx_some hx).2.1)
      | (rw [Option.map_eq_some_iff] at hx; obtain ⟨_, _, hx⟩ := hx; cases hx; rfl)

theorem aapp_rd {P : Program} {h : AHeap} {nm : Nat} {ty : TypeId} {s x v : AV} {rd wr : Locs} (ha : aapp P h nm ty s x = some (rd, wr, v)) : ∀ p ∈ rd, h p.1 = some p.2 := by
  unfold aapp at ha
  split at ha
  · split at ha
    · split at ha
      · split at ha
        · split at ha
          · cases ha; simp
          · cases ha
        · split at ha
          · rename_i hk
            split at ha
            · rename_i hc; cases ha; obtain ⟨rfl, rfl, rfl, _⟩ := hc; simp [hk]
            · cases ha
          · cases ha
        · cases ha
      · cases ha
    · cases ha
  · cases ha

theorem aexec_rd {P : Program} {op : Op} {ev : Operand → AV} {h : AHeap} {nm : Nat} {rd wr : Locs} {v : AV} (hx : aexec P op ev h nm = some (rd, wr, v)) : ∀ p ∈ rd, h p.1 = some p.2 := by
  cases op with
  | load t x =>
    simp only [aexec, Option.map_eq_some_iff] at hx
    obtain ⟨v', hl, hx⟩ := hx
    cases hx
    exact ablk_rd
  | store ty x y =>
    simp only [aexec, Option.map_eq_some_iff] at hx
    obtain ⟨⟨id, k, k'⟩, hl, hx⟩ := hx
    cases hx
    intro p hp
    simp at hp
    subst hp
    unfold astore at hl
    (repeat' split at hl) <;> first | (cases hl; done) | skip
    rename_i hk _ _ _ _ _
    cases hl
    simp_all
  | slice t x lo hi mx =>
    simp only [aexec] at hx
    split at hx
    · split at hx
      · rw [Option.map_eq_some_iff] at hx
        obtain ⟨v', hl, hx⟩ := hx
        cases hx
        exact ablko_rd
      · split at hx
        · cases hx
        · rw [Option.map_eq_some_iff] at hx
          obtain ⟨v', hl, hx⟩ := hx
          cases hx
          simp
    · cases hx
  | convert s d x =>
    simp only [aexec] at hx
    split at hx
    · cases hx; simp
    · split at hx
      · split at hx
        · rw [Option.map_eq_some_iff] at hx
          obtain ⟨b, hb, hx⟩ := hx
          cases hx
          exact ablko_rd
        · cases hx
      · cases hx
  | indexAddr t x i =>
    simp only [aexec] at hx
    split at hx
    · rw [Option.map_eq_some_iff] at hx
      obtain ⟨v', hl, hx⟩ := hx
      cases hx
      exact ablko_rd
    · cases hx
  | call c =>
    obtain ⟨callee, args, ats⟩ := c
    cases callee with
    | builtin b =>
      simp only [aexec] at hx
      unfold abuiltin at hx
      split at hx
      · (repeat' split at hx) <;> first | (cases hx; done) | (cases hx; simp; done) | (rw [Option.map_eq_some_iff] at hx; obtain ⟨n, _, hx⟩ := hx; cases hx; simp; done)
      · split at hx
        · rw [Option.map_eq_some_iff] at hx
          obtain ⟨⟨rd', wr', v'⟩, ha, hx⟩ := hx
          cases hx
          intro p hp
          rcases List.mem_append.1 hp with hp | hp
          · exact aapp_rd ha p hp
          · exact ablko_rd p hp
        · cases hx
      · (repeat' split at hx) <;> first | (cases hx; done) | (cases hx; simp; done)
      · (repeat' split at hx) <;> first | (cases hx; done) | (cases hx; simp; done)
      · cases hx
    | _ => simp [aexec] at hx
  | unOp o t x => cases o <;> simp only [aexec] at hx <;> first | (cases hx; done) | ((repeat' split at hx) <;> first | (cases hx; done) | (cases hx; simp; done))
  | _ =>
    simp only [aexec] at hx
    (repeat' split at hx) <;> first
      | (cases hx; done)
      | (cases hx; simp; done)
      | (obtain ⟨rfl, rfl, _⟩ := aeqx_some hx; simp; done)
      | (rw [Option.map_eq_some_iff] at hx; obtain ⟨_, _, hx⟩ := hx; cases hx; simp; done)

/-- What is known of the operations of a drawn region that have been looked at, and what is left. -/
def DS (P : Program) (N : Nat) (F : AHeap) (ops : List Oper) (us : List (Nat × Nat)) (Q : SPost) (dn : List Ef) (rest : List Oper) (t : Slots) (L : Locs) (n : Nat) : Prop :=
  Fresh F L n → ∃ es t' L' n', EChain P N ops rest es t (hp F L) ∧ writesOk rest es ∧ (∀ k, slotsAt (fun _ => true) rest es k t = t') ∧ (∀ k, heapAt (fun _ => true) es k (hp F L) = hp F L') ∧ Fresh F L' n' ∧
    (∀ k, n' ≤ k → ∀ e ∈ es, k ∉ wids e) ∧ n ≤ n' ∧ disAll (dn ++ es) us ∧ Q .normal t' L' n'

section
variable {P : Program} {N : Nat} {F : AHeap} {ops : List Oper} {us : List (Nat × Nat)} {Q : SPost} {t : Slots} {L : Locs} {n : Nat} {dn : List Ef} {rest : List Oper}

theorem ds_nil (hd : disAll dn us) (H : Q .normal t L n) : DS P N F ops us Q dn [] t L n :=
  fun hf => ⟨[], t, L, n, trivial, trivial, fun _ => rfl, fun _ => rfl, hf, by simp, Nat.le_refl _, by simpa using hd, H⟩

theorem ds_cons {o : Oper} {e : Ef} {t' : Slots} {L' : Locs} {n' : Nat} (h1 : Fresh F L n → EOk P N ops o e t (hp F L)) (hw : mayWrite o.op = false → e.wr = []) (ht : t' = aput t o.dst e.v) (hL : L' = e.wr ++ L) (hn : Fresh F L n → Fresh F L' n') (hnn : n ≤ n')
    (hids : Fresh F L n → ∀ k, n' ≤ k → k ∉ wids e) (H : DS P N F ops us Q (dn ++ [e]) rest t' L' n') : DS P N F ops us Q dn (o :: rest) t L n := by
  intro hf
  obtain ⟨es, t2, L2, n2, a1, a2, a3, a4, a5, a6, a7, a8, a9⟩ := H (hn hf)
  subst ht hL
  refine ⟨e :: es, t2, L2, n2, ⟨h1 hf, by rw [hp_append]; exact a1⟩, ⟨hw, a2⟩, fun k => by simp only [slotsAt, if_true]; exact a3 (k + 1), fun k => by simp only [heapAt, if_true]; rw [hp_append]; exact a4 (k + 1), a5, ?_, by omega, by simpa using a8, a9⟩
  intro k hk e' he'
  cases he' with
  | head => exact hids hf k (by omega)
  | tail _ he' => exact a6 k hk e' he'

theorem ds_step {o : Oper} {t' : Slots} {L' : Locs} {n' : Nat} {es es' : List Ef} (h : stepE P N F ops o (some ((t, L, n), es)) = some ((t', L', n'), es')) : ∃ e, es' = es ++ [e] ∧ (∀ {dn : List Ef}, DS P N F ops us Q (dn ++ [e]) rest t' L' n' → DS P N F ops us Q dn (o :: rest) t L n) := by
  simp only [stepE] at h
  cases hw : awanted ops t o with
  | none => rw [hw] at h; simp [stepE.fin] at h
  | some b =>
    rw [hw] at h
    cases b with
    | true =>
      cases hx : aexec P o.op (aev t) (hp F L) n with
      | none => rw [hx] at h; simp [stepE.fin] at h
      | some r =>
        obtain ⟨rd, wr, v⟩ := r
        rw [hx] at h
        simp only [stepE.fin] at h
        split at h
        · rename_i hfit
          cases h
          refine ⟨_, rfl, fun {dn} H => ?_⟩
          refine ds_cons (e := ⟨true, rd, wr, v⟩) (fun hf => ?_) (fun hm => aexec_nowr hx hm) rfl rfl (fun hf => fresh_step hf hx) (by split <;> omega) ?_ H
          · obtain ⟨_, g1, g2⟩ := aexec_heap (h' := hp F L) hx (aexec_rd hx)
            refine ⟨hfit, hw, by simp, fun _ => ⟨g1, fun p hp => ?_, aexec_loc (hf n (Nat.le_refl _)) hx⟩⟩
            rcases g2 p hp with h | h
            · exact .inl h
            · exact .inr (by rw [h]; exact hf n (Nat.le_refl _))
          · intro hf k hk hm
            simp only [wids, List.mem_map] at hm
            obtain ⟨p, hp', rfl⟩ := hm
            rcases aexec_wr hx p hp' with ⟨h1, h2⟩ | h
            · rw [h1] at hk; simp at hk; omega
            · exact h (hf p.1 (by split at hk <;> omega))
        · cases h
    | false =>
      simp only [stepE.fin] at h
      split at h
      · rename_i hfit
        cases h
        refine ⟨_, rfl, fun {dn} H => ?_⟩
        refine ds_cons (e := ⟨false, [], [], .p (.v undef)⟩) (fun hf => ⟨hfit, hw, fun _ => ⟨rfl, rfl⟩, by simp⟩) (fun _ => rfl) rfl rfl (fun hf => hf) (Nat.le_refl _) (by simp [wids]) H
      · cases h

theorem ds_runE {t' : Slots} {L' : Locs} {n' : Nat} : ∀ {l : List Oper} {t : Slots} {L : Locs} {n : Nat} {es es' : List Ef}, runE P N F ops l (some ((t, L, n), es)) = some ((t', L', n'), es') →
    ∃ d, es' = es ++ d ∧ (∀ {dn : List Ef}, DS P N F ops us Q (dn ++ d) rest t' L' n' → DS P N F ops us Q dn (l ++ rest) t L n)
  | [], t, L, n, es, es', h => by simp only [runE] at h; cases h; exact ⟨[], by simp, fun H => by simpa using H⟩
  | o :: l, t, L, n, es, es', h => by
    simp only [runE] at h
    cases hs : stepE P N F ops o (some ((t, L, n), es)) with
    | none => rw [hs, runE_none] at h; cases h
    | some q =>
      obtain ⟨⟨t1, L1, n1⟩, es1⟩ := q
      rw [hs] at h
      obtain ⟨d, rfl, hd⟩ := ds_runE h
      obtain ⟨e, rfl, he⟩ := ds_step (rest := l ++ rest) (us := us) (Q := Q) hs
      exact ⟨e :: d, by simp, fun {dn} H => he (hd (by simpa using H))⟩

/-- A part of a drawn region that holds no call. -/
theorem ds_run {l all : List Oper} {t' : Slots} {L' : Locs} {n' : Nat} {d : List Ef} (e : all = l ++ rest) (h : Is (runE P N F ops l (some ((t, L, n), []))) (some ((t', L', n'), d))) (H : DS P N F ops us Q (dn ++ d) rest t' L' n') : DS P N F ops us Q dn all t L n := by
  obtain ⟨d', e1, hd⟩ := ds_runE (rest := rest) (us := us) (Q := Q) h
  simp only [List.nil_append] at e1
  subst e1
  rw [e]; exact hd H

theorem callTri {o : Oper} {c : Call} {f : FuncId} {args : List AV} {rd wr : Locs} {v : AV} (hc : o.op = .call c) (hx : acallee t c = some (f, args)) (hp' : callable P f = true) (HC : Does P f args rd wr v) (hcop : c.operands = o.op.operands) : OpLoc P o t ⟨true, rd, wr, v⟩ := by
  intro t' h' he hr hw ⟨m, hm⟩ G a w H hev K Q' hK
  have hx' : acallee t' c = some (f, args) := by
    rw [← hx]
    unfold acallee
    obtain ⟨callee, cargs, ats⟩ := c
    have hops : ∀ x ∈ ({ callee := callee, args := cargs, argTypes := ats } : Call).operands, aev t' x = aev t x := fun x hx => he x (by rw [hc]; exact hx)
    cases callee with
    | value g =>
      have h1 : aev t' g = aev t g := hops g (by simp [Call.operands])
      have h2 : cargs.toList.map (aev t') = cargs.toList.map (aev t) := map_ev fun x hx => hops x (by simp [Call.operands]; right; simpa using hx)
      simp only [h1, h2]
    | _ => rfl
  obtain ⟨vs, hrun, hrel⟩ := acallee_run (P := P) (w := w) hev hc hx' hp'
  unfold Oper.wp
  rw [hrun]
  show Calls P f vs.toArray w _
  refine (HC h' m (fun k hk => hm k hk) hr G w vs H hrel).mono ?_
  rintro e w' ⟨u, G', r, h2, rfl, l, hh, hv, e1, e2⟩
  subst e1 e2
  exact hK u G' w' l hh hv

/-- A call in a drawn region. -/
theorem ds_call {o : Oper} {c : Call} {f : FuncId} {args : List AV} {rd wr : Locs} {v : AV} {n' : Nat} (hc : o.op = .call c) (hg : o.guard = none) (hf : fits N o.dst = true) (hx : acallee t c = some (f, args)) (hp' : callable P f = true) (HC : Does P f args rd wr v)
    (hcall : isCall o.op = true) (hrd : ∀ p ∈ rd, hp F L p.1 = some p.2) (hwr : ∀ p ∈ wr, (∃ q ∈ rd, q.1 = p.1) ∨ (n ≤ p.1 ∧ p.1 < n')) (hnn : n ≤ n') (H : DS P N F ops us Q (dn ++ [⟨true, rd, wr, v⟩]) rest (aput t o.dst v) (wr ++ L) n') :
    DS P N F ops us Q dn (o :: rest) t L n := by
  have hlt : Fresh F L n → ∀ p ∈ wr, p.1 < n' := fun hfr p hp => by
    rcases hwr p hp with ⟨q, hq, e⟩ | h
    · have h1 := hrd q hq
      by_cases h2 : p.1 < n'
      · exact h2
      · exfalso
        rw [e, hfr p.1 (by omega)] at h1
        cases h1
    · exact h.2
  refine ds_cons (e := ⟨true, rd, wr, v⟩) (fun hfr => ⟨hf, by unfold awanted; rw [hg], by simp, fun _ => ⟨hrd, fun p hp => ?_, callTri hc hx hp' HC (by rw [hc]; rfl)⟩⟩) (fun hm => ?_) rfl rfl (fun hfr => ?_) hnn (fun hfr k hk hm => ?_) H
  · rcases hwr p hp with h | ⟨h1, _⟩
    · exact .inl h
    · exact .inr (hfr p.1 h1)
  · rw [hc] at hm hcall
    obtain ⟨callee, cargs, ats⟩ := c
    cases callee <;> simp [mayWrite, isCall] at hm hcall
  · intro k hk
    rw [← hp_append, hp_ne]
    · exact hfr k (by omega)
    · intro p hp e
      have := hlt hfr p hp
      omega
  · simp only [wids, List.mem_map] at hm
    obtain ⟨p, hp', rfl⟩ := hm
    have := hlt hfr p hp'
    omega

/-- A region that draws its order. -/
theorem sw_draw {id : Nat} {ops : List Oper} (hm : P.follows .mixedOrders = true) (hs : statB ops = true) (hu : unord ops = us) (H : DS P N F ops us Q [] ops t L n) : SW P N F (.region id ops.toArray true) Q t L n := by
  intro hf G0 G a w ha hl st
  obtain ⟨es, t2, L2, n2, a1, a2, a3, a4, a5, a6, a7, a8, a9⟩ := H hf
  refine wp_region_any hm ?_
  subst hu
  have hlen : ops.toArray.size = ops.length := by simp
  have hG : HRel G (hp F L) { w with drawn := w.drawn + 1 } := ⟨st.heap.below.drew, st.heap.imm, st.heap.blk, st.heap.sep, st.heap.dom, st.heap.top, st.heap.glb⟩
  have st' : StRel N G t (hp F L) a { w with drawn := w.drawn + 1 } := ⟨st.size, st.defers, st.slots, hG⟩
  have hno : ∀ j, (Array.replicate ops.toArray.size false).getD j false = false := by
    intro j; rw [Array.getD_eq_getD_getElem?, Array.getElem?_replicate]; split <;> rfl
  refine wpAny_chain (G0 := G0) (h := hp F L) (t := t) a1 hs a2 (by simpa using a8) ⟨n2, fun k hk => ⟨hf k (by omega), a6 k hk⟩⟩ (fun G' a' w' hl' st2 => ?_) _ _ _ _ G (by simp) ?_ ?_ hl ?_
  · rw [a3, a4] at st2
    exact ⟨G', t2, hp F L2, hl', st2, L2, n2, rfl, a5, a9⟩
  · intro i o hi
    rw [hno] at hi; cases hi
  · simp [List.countP_replicate]
  · refine st'.same (fun i => ?_) fun id => ?_
    · have e1 : look (slotsAt (fun j => (Array.replicate ops.toArray.size false).getD j false) ops es 0 t) i = look (slotsAt (fun _ => false) ops es 0 t) i := slotsAt_agree rfl fun j o _ hne => by rw [hno] at hne; exact absurd rfl hne
      have none_ : ∀ (os : List Oper) (es : List Ef) (k : Nat) (t : Slots), slotsAt (fun _ => false) os es k t = t := by
        intro os
        induction os with
        | nil => intro es k t; simp [slotsAt]
        | cons o os ih => intro es k t; cases es with
          | nil => simp [slotsAt]
          | cons e es => simp [slotsAt, ih]
      rw [e1, none_]
    · have e1 : heapAt (fun j => (Array.replicate ops.toArray.size false).getD j false) es 0 (hp F L) id = heapAt (fun _ => false) es 0 (hp F L) id := heapAt_agree rfl fun j o _ hne => by rw [hno] at hne; exact absurd rfl hne
      have none_ : ∀ (es : List Ef) (k : Nat) (h : AHeap), heapAt (fun _ => false) es k h = h := by
        intro es
        induction es with
        | nil => intro k h; rfl
        | cons e es ih => intro k h; simp [heapAt, ih]
      rw [e1, none_]

end

attribute [simp] runE stepE stepE.fin disAll EDisj wids rids

end Go.AM
