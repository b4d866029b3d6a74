/- The walk as a statement that is computed: what is left are loops, calls and regions that draw their order. -/
import Derived.Test.YtmljoaiedihoiaaDoorAm15
namespace Go.AM
set_option linter.unusedVariables false
set_option linter.unusedSimpArgs false
open Go Go.RowKit
set_option linter.unusedSectionVars false
variable [Glob]

abbrev Locs := List (Nat × Blk)
abbrev SPost := Exit → Slots → Locs → Nat → Prop

/-- From n on no block has a name. -/
def Fresh (F : AHeap) (L : Locs) (n : Nat) : Prop := ∀ k, n ≤ k → hp F L k = none

def conc (F : AHeap) (Q : SPost) : APost := fun e t h => ∃ L n, h = hp F L ∧ Fresh F L n ∧ Q e t L n

/-- The weakest condition, over the heap F and the blocks L before it. -/
def SW (P : Program) (N : Nat) (F : AHeap) (c : Code) (Q : SPost) (t : Slots) (L : Locs) (n : Nat) : Prop :=
  Fresh F L n → AWp P N F c (conc F Q) t (hp F L)

def sthen (next : Slots → Locs → Nat → Prop) (Q : SPost) : SPost
  | .normal, t, L, n => next t L n
  | e, t, L, n => Q e t L n

def sblock (id : Nat) (Q : SPost) : SPost
  | .exit id', t, L, n => if id' = id then Q .normal t L n else Q (.exit id') t L n
  | e, t, L, n => Q e t L n

section
variable {P : Program} {N : Nat} {F : AHeap} {Q : SPost} {t : Slots} {L : Locs} {n : Nat}

theorem sw_mono {c : Code} {Q' : SPost} (H : SW P N F c Q t L n) (hq : ∀ e t L n, Q e t L n → Q' e t L n) : SW P N F c Q' t L n :=
  fun hf => awp_mono (H hf) fun _ _ _ ⟨L', n', e1, e2, q⟩ => ⟨L', n', e1, e2, hq _ _ _ _ q⟩

theorem sw_skip (H : Q .normal t L n) : SW P N F .skip Q t L n := fun hf => awp_skip ⟨L, n, rfl, hf, H⟩
theorem sw_label {l : Nat} (H : Q .normal t L n) : SW P N F (.label l) Q t L n := fun hf => awp_label ⟨L, n, rfl, hf, H⟩
theorem sw_exit {id : Nat} (H : Q (.exit id) t L n) : SW P N F (.exit id) Q t L n := fun hf => awp_exit ⟨L, n, rfl, hf, H⟩
theorem sw_ret (H : Q .ret t L n) : SW P N F .ret Q t L n := fun hf => awp_ret ⟨L, n, rfl, hf, H⟩

theorem sw_seq {x y : Code} (H : SW P N F x (sthen (SW P N F y Q) Q) t L n) : SW P N F (.seq x y) Q t L n := by
  intro hf
  refine awp_seq (awp_mono (H hf) ?_)
  intro e t' h' ⟨L', n', e1, e2, q⟩
  cases e with
  | normal => subst e1; exact q e2
  | _ => exact ⟨L', n', e1, e2, q⟩

theorem sw_cond {c : Operand} {x y : Code} (b : Bool) (hc : (aev t c).val = some (.bool b)) (H1 : b = true → SW P N F x Q t L n) (H2 : b = false → SW P N F y Q t L n) : SW P N F (.cond c x y) Q t L n := by
  intro hf
  have hc' : aev t c = .p (.v (.bool b)) := by
    generalize aev t c = z at hc
    cases z with
    | p z => cases z with
      | v z => simp only [AV.val] at hc; cases hc; rfl
      | sl => simp [AV.val] at hc
    | _ => simp [AV.val] at hc
  exact awp_cond b hc' (fun e => H1 e hf) (fun e => H2 e hf)

theorem sw_block {id : Nat} {c : Code} (H : SW P N F c (sblock id Q) t L n) : SW P N F (.block id c) Q t L n := by
  intro hf
  refine awp_block (awp_mono (H hf) ?_)
  intro e t' h' ⟨L', n', e1, e2, q⟩
  cases e with
  | exit id' =>
    simp only [sblock] at q
    simp only [ablock]
    split at q
    · rename_i e; rw [if_pos e]; exact ⟨L', n', e1, e2, q⟩
    · rename_i e; rw [if_neg e]; exact ⟨L', n', e1, e2, q⟩
  | _ => exact ⟨L', n', e1, e2, q⟩

/-- A loop over a family of states. -/
theorem sw_loop {c : Code} {α : Type} (T : α → Slots) (H : α → Locs) (k : α → Nat) (μ : α → Nat) (x0 : α) (start : Fresh F L n → Weak N F t (hp F L) (T x0) (hp F (H x0))) (hfr : ∀ x, Fresh F (H x) (k x))
    (round : ∀ x, SW P N F c (sthen (fun t' L' n' => ∃ y, Weak N F t' (hp F L') (T y) (hp F (H y)) ∧ μ y < μ x) Q) (T x) (H x) (k x)) : SW P N F (.loop c) Q t L n := by
  intro hf
  refine awp_loop T (fun x => hp F (H x)) μ x0 (start hf) fun x => ?_
  refine awp_mono (round x (hfr x)) ?_
  intro e t' h' ⟨L', n', e1, e2, q⟩
  cases e with
  | normal => subst e1; exact q
  | _ => exact ⟨L', n', e1, e2, q⟩

/-! ### Regions -/

/-- The operations of a region that are left. -/
def SS (P : Program) (N : Nat) (F : AHeap) (ops : List Oper) (Q : SPost) (rest : List Oper) (t : Slots) (L : Locs) (n : Nat) : Prop :=
  Fresh F L n → ASeq P N F ops (conc F Q) rest t (hp F L)

theorem sw_region {id : Nat} {ops : Array Oper} (H : SS P N F ops.toList Q ops.toList t L n) : SW P N F (.region id ops false) Q t L n :=
  fun hf => by have := awp_region (id := id) (H hf); rwa [show ops.toList.toArray = ops from rfl] at this

theorem ss_nil {ops : List Oper} (H : Q .normal t L n) : SS P N F ops Q [] t L n := fun hf => aseq_nil ⟨L, n, rfl, hf, H⟩

def makes : Op → Bool
  | .alloc _ | .box .. | .buildSlice .. | .makeSlice .. => true
  | .call { callee := .builtin .append, .. } => true
  | _ => false

theorem aapp_wr {h : AHeap} {nm : Nat} {ty : TypeId} {s x v : AV} {rd wr : Locs} (ha : aapp P h nm ty s x = some (rd, wr, v)) : ∀ p ∈ wr, p.1 = nm ∨ h p.1 ≠ none := by
  unfold aapp at ha
  split at ha
  · split at ha
    · split at ha
      · split at ha
        · split at ha
          · cases ha; simp
          · cases ha
        · split at ha
          · rename_i hk
            split at ha
            · cases ha; simp [hk]
            · cases ha
          · cases ha
        · cases ha
      · cases ha
    · cases ha
  · cases ha

theorem aexec_wr {op : Op} {ev : Operand → AV} {h : AHeap} {nm : Nat} {rd wr : Locs} {v : AV} (hx : aexec P op ev h nm = some (rd, wr, v)) : ∀ p ∈ wr, (makes op = true ∧ p.1 = nm) ∨ h p.1 ≠ none := by
  cases op with
  | alloc e => simp only [aexec] at hx; (repeat' split at hx) <;> first | (cases hx; simp [makes]; done) | cases hx
  | box e x => simp only [aexec] at hx; (repeat' split at hx) <;> first | (cases hx; simp [makes]; done) | cases hx
  | buildSlice => simp only [aexec] at hx; (repeat' split at hx) <;> first | (cases hx; simp [makes]; done) | cases hx
  | makeSlice => simp only [aexec] at hx; (repeat' split at hx) <;> first | (cases hx; simp [makes]; done) | cases hx
  | store ty x y =>
    simp only [aexec, Option.map_eq_some_iff] at hx
    obtain ⟨⟨id, k, k'⟩, hl, hx⟩ := hx
    cases hx
    intro p hp
    simp at hp
    subst hp
    right
    unfold astore at hl
    (repeat' split at hl) <;> first | (cases hl; done) | skip
    rename_i hk _ _ _ _ _
    cases hl
    simp_all
  | call c =>
    obtain ⟨callee, args, ats⟩ := c
    cases callee with
    | builtin b =>
      simp only [aexec] at hx
      unfold abuiltin at hx
      split at hx
      · (repeat' split at hx) <;> first | (cases hx; done) | (cases hx; simp; done) | (rw [Option.map_eq_some_iff] at hx; obtain ⟨n, _, hx⟩ := hx; cases hx; simp)
      · split at hx
        · rw [Option.map_eq_some_iff] at hx
          obtain ⟨⟨rd', wr', v'⟩, ha, hx⟩ := hx
          cases hx
          intro p hp
          rcases aapp_wr ha p hp with h | h
          · exact .inl ⟨rfl, h⟩
          · exact .inr h
        · cases hx
      · (repeat' split at hx) <;> first | (cases hx; done) | (cases hx; simp; done)
      · (repeat' split at hx) <;> first | (cases hx; done) | (cases hx; simp; done)
      · cases hx
    | _ => simp [aexec] at hx
  | unOp o t x => cases o <;> simp only [aexec] at hx <;> first | (cases hx; done) | ((repeat' split at hx) <;> first | (cases hx; done) | (cases hx; simp; done))
  | _ =>
    simp only [aexec] at hx
    (repeat' split at hx) <;> first
      | (cases hx; done)
      | (cases hx; simp; done)
      | (obtain ⟨rfl, rfl, _⟩ := aeqx_some hx; simp; done)
      | (rw [Option.map_eq_some_iff] at hx; obtain ⟨_, _, hx⟩ := hx; cases hx; simp; done)

theorem fresh_step {op : Op} {ev : Operand → AV} {rd wr : Locs} {v : AV} (hf : Fresh F L n) (hx : aexec P op ev (hp F L) n = some (rd, wr, v)) : Fresh F (wr ++ L) (if makes op then n + 1 else n) := by
  intro k hk
  rw [← hp_append, hp_ne]
  · exact hf k (by split at hk <;> omega)
  · intro p hp e
    rcases aexec_wr hx p hp with ⟨h1, h2⟩ | h
    · rw [h1] at hk; simp at hk; omega
    · rw [e] at h; exact h (hf k (by split at hk <;> omega))

/-- The walk of one operation that is no call. -/
def sstep (P : Program) (N : Nat) (F : AHeap) (ops : List Oper) (o : Oper) (K : Slots → Locs → Nat → Prop) (t : Slots) (L : Locs) (n : Nat) : Prop :=
  fits N o.dst = true ∧ match awanted ops t o with
    | some b => (b = true → match aexec P o.op (aev t) (hp F L) n with
        | some r => K (aput t o.dst r.2.2) (r.2.1 ++ L) (if makes o.op then n + 1 else n)
        | none => False) ∧ (b = false → K (aput t o.dst (.p (.v undef))) L n)
    | none => False

theorem ss_step {ops rest : List Oper} {o : Oper} (H : sstep P N F ops o (SS P N F ops Q rest) t L n) : SS P N F ops Q (o :: rest) t L n := by
  intro hf
  obtain ⟨h1, h2⟩ := H
  cases hw : awanted ops t o with
  | none => rw [hw] at h2; exact h2.elim
  | some b =>
    rw [hw] at h2
    cases b with
    | true =>
      have h3 := h2.1 rfl
      cases hx : aexec P o.op (aev t) (hp F L) n with
      | none => rw [hx] at h3; exact h3.elim
      | some r =>
        obtain ⟨rd, wr, v⟩ := r
        rw [hx] at h3
        refine aseq_step n hw h1 (hf n (Nat.le_refl _)) hx ?_
        rw [hp_append]
        exact h3 (fresh_step hf hx)
    | false => exact aseq_skip hw h1 (h2.2 rfl hf)

/-- A call whose contract leaves the heap as it was. -/
theorem ss_call {ops rest : List Oper} {o : Oper} {c : Call} {f : FuncId} {args : List AV} {R : AV → Prop} (hc : o.op = .call c) (hg : o.guard = none) (hf : fits N o.dst = true) (hx : acallee t c = some (f, args)) (hp' : callable P f = true)
    (HC : Fresh F L n → ACalls P f args (hp F L) (fun r h' => h' = hp F L ∧ R r)) (H : ∀ r, R r → SS P N F ops Q rest (aput t o.dst r) L n) : SS P N F ops Q (o :: rest) t L n :=
  fun hfr => aseq_call hc (by unfold awanted; rw [hg]) hf hx hp' (HC hfr) fun r h' ⟨e, hr⟩ => by rw [e]; exact H r hr hfr

/-- A call that leaves a heap with other blocks before F. -/
theorem ss_call_heap {ops rest : List Oper} {o : Oper} {c : Call} {f : FuncId} {args : List AV} {R : AV → Locs → Nat → Prop} (hc : o.op = .call c) (hg : o.guard = none) (hf : fits N o.dst = true) (hx : acallee t c = some (f, args)) (hp' : callable P f = true)
    (HC : Fresh F L n → ACalls P f args (hp F L) (fun r h' => ∃ L' n', h' = hp F L' ∧ Fresh F L' n' ∧ R r L' n')) (H : ∀ r L' n', R r L' n' → SS P N F ops Q rest (aput t o.dst r) L' n') : SS P N F ops Q (o :: rest) t L n :=
  fun hfr => aseq_call hc (by unfold awanted; rw [hg]) hf hx hp' (HC hfr) fun r h' ⟨L', n', e, hfr', hr⟩ => by rw [e]; exact H r L' n' hr hfr'

/-! ### The end of a function -/

def send (P : Program) (F : AHeap) (rs : List ResultVar) (Q : AV → AHeap → Prop) : SPost
  | .normal, t, L, n => Fresh F L n → ∃ r r' h', ares P t (hp F L) rs = some r ∧ WeakL F [r] (hp F L) [r'] h' ∧ Q r' h'
  | .ret, t, L, n => Fresh F L n → ∃ r r' h', ares P t (hp F L) rs = some r ∧ WeakL F [r] (hp F L) [r'] h' ∧ Q r' h'
  | _, _, _, _ => False

theorem acalls_sw {f : FuncId} {fn : Func} {c : Code} {args : List AV} {R : AV → AHeap → Prop} {N : Nat} (hf : P.funcs[f]? = some fn) (hb : fn.body = some c) (hN : fn.ntmps = N) (hl : args.length ≤ N) (hfr : Fresh F [] n)
    (H : SW P N F c (send P F fn.results.toList R) (argSlots 0 args) [] n) : ACalls P f args F R := by
  refine acalls_of hf hb hN hl (awp_mono (H hfr) ?_)
  intro e t h ⟨L, n, e1, e2, q⟩
  subst e1
  cases e with
  | normal => exact q e2
  | ret => exact q e2
  | exit => exact q.elim
  | goto => exact q.elim
  | panic => exact q.elim
  | outgrown => exact q.elim

/-- The result holds nothing of the call's own: what the call made is dropped. -/
theorem weak_plain {r : AV} (hr : conv (fun id => F id ≠ none) noA r r) (hs : shed F [] L) : WeakL F [r] (hp F L) [r] F := by
  have := weakL_cut (F := F) (L := L) (L' := []) (xs := [r]) (ys := [r]) (by simp only [convL, hp]; exact ⟨hr, trivial⟩) (by simp [keptB]) hs
  exact this

/-- The result is a row of the call's own: it becomes a plain list. -/
theorem weak_frozen {r r' : AV} {id ver sz : Nat} {e : TypeId} {es : List (List PV)} (hk : hp F L id = some (.row ver e sz (pcells es))) (hid : F id = none) (hr : conv (fun i => F i ≠ none) (frzA id ver sz es) r r') (hs : shed F [] L) :
    WeakL F [r] (hp F L) [r'] F := by
  have := weakL_freeze (F := F) (L := L) (L' := []) (xs := [r]) (ys := [r']) hk (by simp only [convL, hp]; exact ⟨hr, trivial⟩) hid (by simp) hs
  exact this

theorem WeakL.trans {h0 h1 h2 h3 : AHeap} {xs ys zs : List AV} (a : WeakL h0 xs h1 ys h2) (b : WeakL h0 ys h2 zs h3) : WeakL h0 xs h1 zs h3 :=
  fun G0 G w vs ha hl hh hr => let ⟨G', l', hh', hr'⟩ := a G0 G w vs ha hl hh hr; b G0 G' w vs ha l' hh' hr'

end
end Go.AM
