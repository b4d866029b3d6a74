/- The walk, computed: the operations of a region in one go. -/
import Derived.Test.YtmljoaiedihoiaaDoorAm16
namespace Go.AM
set_option linter.unusedVariables false
set_option linter.unusedSimpArgs false
open Go Go.RowKit
set_option linter.unusedSectionVars false
variable [Glob]

def isCall : Op → Bool
  | .call { callee := .builtin _, .. } => false
  | .call _ => true
  | _ => false

abbrev St := Slots × Locs × Nat

def fin1 (N : Nat) (o : Oper) (t : Slots) (L : Locs) (n : Nat) : Option Bool → Option Eff → Option St
  | some true, some r => if fits N o.dst then some (aput t o.dst r.2.2, r.2.1 ++ L, if makes o.op then n + 1 else n) else none
  | some false, _ => if fits N o.dst then some (aput t o.dst (.p (.v undef)), L, n) else none
  | _, _ => none

def step1 (P : Program) (N : Nat) (F : AHeap) (ops : List Oper) (o : Oper) : Option St → Option St
  | some (t, L, n) => fin1 N o t L n (awanted ops t o) (aexec P o.op (aev t) (hp F L) n)
  | none => none

/-- All of them, one after the other. -/
def runL (P : Program) (N : Nat) (F : AHeap) (ops : List Oper) : List Oper → Option St → Option St
  | [], s => s
  | o :: rest, s => runL P N F ops rest (step1 P N F ops o s)

/-- An equation that simp takes from the left alone. -/
def Is {α : Type} (x y : α) : Prop := x = y
theorem Is.mk {α : Type} (x : α) : Is x x := rfl

section
variable {P : Program} {N : Nat} {F : AHeap} {Q : SPost} {t : Slots} {L : Locs} {n : Nat}

theorem ss_step1 {ops rest : List Oper} {o : Oper} {t' : Slots} {L' : Locs} {n' : Nat} (h : step1 P N F ops o (some (t, L, n)) = some (t', L', n')) (H : SS P N F ops Q rest t' L' n') : SS P N F ops Q (o :: rest) t L n := by
  refine ss_step ?_
  unfold sstep
  simp only [step1] at h
  cases hw : awanted ops t o with
  | none => rw [hw] at h; simp [fin1] at h
  | some b =>
    rw [hw] at h
    cases b with
    | true =>
      cases hx : aexec P o.op (aev t) (hp F L) n with
      | none => rw [hx] at h; simp [fin1] at h
      | some r =>
        rw [hx] at h
        simp only [fin1] at h
        split at h
        · rename_i hf
          cases h
          exact ⟨hf, fun _ => H, fun e => by cases e⟩
        · cases h
    | false =>
      simp only [fin1] at h
      split at h
      · rename_i hf
        cases h
        exact ⟨hf, fun e => (by cases e), fun _ => H⟩
      · cases h

theorem runL_none {ops : List Oper} : ∀ (l : List Oper), runL P N F ops l none = none
  | [] => rfl
  | o :: l => by simp only [runL, step1]; exact runL_none l

theorem ss_runL {ops : List Oper} {r : St} : ∀ {l rest : List Oper} {t : Slots} {L : Locs} {n : Nat}, runL P N F ops l (some (t, L, n)) = some r → SS P N F ops Q rest r.1 r.2.1 r.2.2 → SS P N F ops Q (l ++ rest) t L n
  | [], rest, t, L, n, h, H => by simp only [runL] at h; cases h; exact H
  | o :: l, rest, t, L, n, h, H => by
    simp only [runL] at h
    cases hs : step1 P N F ops o (some (t, L, n)) with
    | none => rw [hs, runL_none] at h; cases h
    | some s =>
      obtain ⟨t1, L1, n1⟩ := s
      rw [hs] at h
      exact ss_step1 hs (ss_runL h H)

/-- A region without a call. -/
theorem sw_run {id : Nat} {ops : List Oper} {t' : Slots} {L' : Locs} {n' : Nat} (h : Is (runL P N F ops ops (some (t, L, n))) (some (t', L', n'))) (H : Q .normal t' L' n') : SW P N F (.region id ops.toArray false) Q t L n :=
  sw_region (by have := ss_runL (Q := Q) (rest := []) h (ss_nil H); simpa using this)

/-- A part of a region. -/
theorem ss_run {ops l rest all : List Oper} {t' : Slots} {L' : Locs} {n' : Nat} (e : all = l ++ rest) (h : Is (runL P N F ops l (some (t, L, n))) (some (t', L', n'))) (H : SS P N F ops Q rest t' L' n') : SS P N F ops Q all t L n := by
  rw [e]; exact ss_runL h H

theorem sw_ss {id : Nat} {ops : List Oper} (H : SS P N F ops Q ops t L n) : SW P N F (.region id ops.toArray false) Q t L n := sw_region (by simpa using H)

theorem sw_seq_k {x y : Code} (H : SW P N F x (sthen (SW P N F y Q) Q) t L n) : SW P N F (.seq x y) Q t L n := sw_seq H

end

section
variable {P : Program} {N : Nat} {F : AHeap} {Q : SPost} {K : Slots → Locs → Nat → Prop} {t : Slots} {L : Locs} {n : Nat} {id id' : Nat}

theorem n_then (H : K t L n) : sthen K Q .normal t L n := H
theorem r_then (H : Q .ret t L n) : sthen K Q .ret t L n := H
theorem e_then (H : Q (.exit id) t L n) : sthen K Q (.exit id) t L n := H
theorem n_block (H : Q .normal t L n) : sblock id Q .normal t L n := H
theorem r_block (H : Q .ret t L n) : sblock id Q .ret t L n := H
theorem e_block (H : Q .normal t L n) : sblock id Q (.exit id) t L n := by simp only [sblock, if_true]; exact H
theorem o_block (h : (id' == id) = false) (H : Q (.exit id') t L n) : sblock id Q (.exit id') t L n := by
  simp only [sblock]; rw [if_neg (by simpa using h)]; exact H

theorem sw_yes {c : Operand} {x y : Code} {q : Prop} [Decidable q] (hc : Is (aev t c).val (some (.bool (decide q)))) (hq : q) (H : SW P N F x Q t L n) : SW P N F (.cond c x y) Q t L n :=
  sw_cond _ hc (fun _ => H) (fun e => by simp [hq] at e)
theorem sw_no {c : Operand} {x y : Code} {q : Prop} [Decidable q] (hc : Is (aev t c).val (some (.bool (decide q)))) (hq : ¬ q) (H : SW P N F y Q t L n) : SW P N F (.cond c x y) Q t L n :=
  sw_cond _ hc (fun e => by simp [hq] at e) (fun _ => H)
theorem sw_if {c : Operand} {x y : Code} {q : Prop} [Decidable q] (hc : Is (aev t c).val (some (.bool (decide q)))) (H1 : q → SW P N F x Q t L n) (H2 : ¬ q → SW P N F y Q t L n) : SW P N F (.cond c x y) Q t L n :=
  sw_cond _ hc (fun e => H1 (by simpa using e)) (fun e => H2 (by simpa using e))
theorem sw_true {c : Operand} {x y : Code} (hc : Is (aev t c).val (some (.bool true))) (H : SW P N F x Q t L n) : SW P N F (.cond c x y) Q t L n :=
  sw_cond _ hc (fun _ => H) (fun e => by cases e)
theorem sw_false {c : Operand} {x y : Code} (hc : Is (aev t c).val (some (.bool false))) (H : SW P N F y Q t L n) : SW P N F (.cond c x y) Q t L n :=
  sw_cond _ hc (fun e => by cases e) (fun _ => H)

/-- The end: the result is read, what the call made is dropped. -/
theorem end_ret {rs : List ResultVar} {R : AV → AHeap → Prop} {r r' : AV} {h' : AHeap} (hr : Is (ares P t (hp F L) rs) (some r)) (hw : Fresh F L n → WeakL F [r] (hp F L) [r'] h') (H : R r' h') : send P F rs R .ret t L n :=
  fun hf => ⟨r, r', h', hr, hw hf, H⟩
theorem end_normal {rs : List ResultVar} {R : AV → AHeap → Prop} {r r' : AV} {h' : AHeap} (hr : Is (ares P t (hp F L) rs) (some r)) (hw : Fresh F L n → WeakL F [r] (hp F L) [r'] h') (H : R r' h') : send P F rs R .normal t L n :=
  fun hf => ⟨r, r', h', hr, hw hf, H⟩
end

@[simp] theorem undef_eq : undef = .tuple #[] := rfl
attribute [simp] runL step1 fin1 isCall aexec awanted fits argSlots look aev aput del cellsOf AV.one Value.oneCell' makes afld aload acells hp AV.val abin aeqx aeqv aeqL aeq1 alen anil aidx aslice abound aint isNil0 apart
  aslx abytes abuild afill splice chunks astore aapp asrc abuiltin ablk ablko pv ares ares1 aresL conv convL convE convB keptB shed convT acallee

end Go.AM
