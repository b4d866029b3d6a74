/- '==' and '!=' of bools, strings, structs of such cells, and of slices with nil. -/
import Derived.Test.YtmljoaiedihoiaaDoorAm12
import Derived.Laws.StructEq
namespace Go.AM
set_option linter.unusedVariables false
set_option linter.unusedSimpArgs false
open Go Go.RowKit
set_option linter.unusedSectionVars false
variable [Glob]

inductive EK where
  | i | b | s
def ekOf (P : Program) (t : TypeId) : Option EK :=
  match P.underlying t with
  | some (.int _) => some .i
  | some .bool => some .b
  | some .string => some .s
  | _ => none
/-- How values of a type are compared: a struct?, then the places of its parts. -/
def tEq (P : Program) (t : TypeId) : Option (Bool × List (Nat × EK)) :=
  match P.underlying t with
  | some (.struct fs) => if P.stoodInHeld t = false ∧ P.eqGuardType P.depth t = false ∧ fs.toList.all (fun f => f.name != "_" && (tAgg P f.type == some (false, 1))) = true then (fs.toList.mapM fun f => (ekOf P f.type).map fun k => (f.offset, k)).map fun l => (true, l) else none
  | _ => (ekOf P t).map fun k => (false, [(0, k)])
def tSlc (P : Program) (t : TypeId) : Bool := match P.underlying t with | some (.slice _) => true | _ => false

def aeq1 : EK → AV → AV → Option Bool
  | .i, .p (.v (.int k a)), .p (.v (.int k' b)) => if k = k' then some (decide (a = b)) else none
  | .b, .p (.v (.bool a)), .p (.v (.bool b)) => some (a == b)
  | .s, .p (.v (.string a)), .p (.v (.string b)) => some (a == b)
  | _, _, _ => none

def aeqL (xs ys : List AV) : List (Nat × EK) → Option Bool
  | [] => some true
  | (o, k) :: r => match xs[o]?, ys[o]? with
    | some x, some y => match aeq1 k x y, aeqL xs ys r with
      | some a, some b => some (a && b)
      | _, _ => none
    | _, _ => none

def aeqv (P : Program) (t : TypeId) (x y : AV) : Option Bool :=
  match tEq P t, x, y with
  | some (true, l), .agg xs, .agg ys => aeqL xs ys l
  | some (false, [(_, k)]), x, y => aeq1 k x y
  | none, x, .p (.v (.slice none 0 0)) => if tSlc P t = true then anil x else none
  | _, _, _ => none

section
variable {P : Program} {G : Gh} {w : World}

theorem aeq1_run {t : TypeId} {k : EK} {x y : AV} {r : Bool} {u v : Value} (d : Nat) (hk : ekOf P t = some k) (h : aeq1 k x y = some r) (rx : Rel G x u) (ry : Rel G y v) : (Op.equalIn (d + 1) t u v).run P w = .ok r w := by
  unfold aeq1 at h
  split at h
  · split at h
    · rename_i e
      cases h
      subst e
      simp only [Rel, PRel] at rx ry
      subst rx ry
      unfold ekOf at hk
      split at hk <;> try (cases hk; done)
      rename_i hu
      simp [Op.equalIn, run_underlying hu]
      rfl
    · cases h
  · cases h
    simp only [Rel, PRel] at rx ry
    subst rx ry
    unfold ekOf at hk
    split at hk <;> try (cases hk; done)
    rename_i hu
    simp [Op.equalIn, run_underlying hu]
  · cases h
    simp only [Rel, PRel] at rx ry
    subst rx ry
    unfold ekOf at hk
    split at hk <;> try (cases hk; done)
    rename_i hu
    simp [Op.equalIn, run_underlying hu]
  · cases h

theorem aeqL_run {d : Nat} {xs ys : List AV} {us vs : Array Value} (rx : RelL G xs us.toList) (ry : RelL G ys vs.toList) : ∀ {fs : List Field} {l : List (Nat × EK)} {r : Bool}, fs.all (fun f => f.name != "_" && (tAgg P f.type == some (false, 1))) = true →
    (fs.mapM fun f => (ekOf P f.type).map fun k => (f.offset, k)) = some l → aeqL xs ys l = some r → (Op.eqFields (d + 1) us vs fs).run P w = .ok r w
  | [], l, r, _, hl, h => by
    simp at hl
    subst hl
    simp only [aeqL] at h
    cases h
    simp [Op.eqFields]
  | f :: fs, l, r, ha, hl, h => by
    simp only [List.all_cons, Bool.and_eq_true, bne_iff_ne, beq_iff_eq] at ha
    obtain ⟨⟨h1, h2⟩, h3⟩ := ha
    simp only [List.mapM_cons, Option.bind_eq_bind, Option.bind_eq_some_iff, Option.map_eq_some_iff, Option.pure_def, Option.some.injEq] at hl
    obtain ⟨p, ⟨k, hk, rfl⟩, l', hl', rfl⟩ := hl
    simp only [aeqL] at h
    split at h
    · rename_i x y hx hy
      split at h
      · rename_i a b e1 e2
        cases h
        have ih := aeqL_run (d := d) rx ry (by simpa using h3) hl' e2
        obtain ⟨u, p1, p2⟩ := apart_rel (w := w) h2 (show apart xs f.offset false 1 = some x by simp [apart, hx]) rx
        obtain ⟨v, q1, q2⟩ := apart_rel (w := w) h2 (show apart ys f.offset false 1 = some y by simp [apart, hy]) ry
        have e := aeq1_run (w := w) d hk e1 p2 q2
        rw [Op.eqFields]
        simp only [if_pos h1, Sem.run_bind, p1, q1, e, Result.andThen_ok]
        cases a
        · simp
        · simpa using ih
      · cases h
    · cases h

theorem aeqv_run {t : TypeId} {x y : AV} {r : Bool} {u v : Value} (h : aeqv P t x y = some r) (rx : Rel G x u) (ry : Rel G y v) (ox oy : Operand) :
    (do eqGuard .eql t ox oy u v; binOp .eql t u v : Sem Value).run P w = .ok (.bool r) w ∧ (do eqGuard .neq t ox oy u v; binOp .neq t u v : Sem Value).run P w = .ok (.bool !r) w := by
  unfold aeqv at h
  split at h
  · rename_i l xs ys ht
    unfold tEq at ht
    split at ht
    · rename_i fs hu
      split at ht
      · rename_i hc
        simp only [Option.map_eq_some_iff, Prod.mk.injEq, true_and, exists_eq_right] at ht
        simp only [Rel] at rx ry
        obtain ⟨us, rfl, rx⟩ := rx
        obtain ⟨vs, rfl, ry⟩ := ry
        have e := aeqL_run (d := 9998) (w := w) rx ry hc.2.2 ht h
        have e2 : (Op.equal t (.agg us) (.agg vs)).run P w = .ok r w := by
          unfold Op.equal Op.maxDepth
          have hf : P.fieldsOf t = fs := by simp [Program.fieldsOf, hu]
          rw [run_equalIn_struct (P := P) w 9999 t us vs (by rw [hf]; exact hu) hc.1, hf]
          exact e
        refine ⟨?_, ?_⟩
        · simp [eqGuard, hc.2.1, binOp, e2]
        · simp [eqGuard, hc.2.1, binOp, e2]
      · cases ht
    · simp at ht
  · rename_i o k ht
    have hk : ekOf P t = some k := by
      unfold tEq at ht
      split at ht
      · split at ht
        · simp at ht
        · cases ht
      · simp only [Option.map_eq_some_iff, Prod.mk.injEq, List.cons.injEq, and_true, true_and] at ht
        obtain ⟨k', h1, h2, rfl⟩ := ht
        exact h1
    have e := aeq1_run (w := w) 9999 hk h rx ry
    unfold aeq1 at h
    split at h
    · split at h
      · rename_i e'
        cases h
        subst e'
        simp only [Rel, PRel] at rx ry
        subst rx ry
        refine ⟨?_, ?_⟩
        · simp [eqGuard, binOp, Op.intCmp]; rfl
        · simp [eqGuard, binOp, Op.intCmp]; rfl
      · cases h
    · cases h
      simp only [Rel, PRel] at rx ry
      subst rx ry
      refine ⟨?_, ?_⟩
      · simp [eqGuard, binOp, Op.equal, Op.maxDepth, e]
      · simp [eqGuard, binOp, Op.equal, Op.maxDepth, e]
    · cases h
      simp only [Rel, PRel] at rx ry
      subst rx ry
      refine ⟨?_, ?_⟩
      · simp [eqGuard, binOp, Op.stringOp, ← beq_toListBytes]
      · simp [eqGuard, binOp, Op.stringOp, ← beq_toListBytes]
    · cases h
  · rename_i ht
    split at h
    · rename_i hs
      simp only [Rel, PRel] at ry
      subst ry
      obtain ⟨a, n, c, rfl, e⟩ := anil_rel h rx
      have hu : ∃ e, P.underlying t = some (.slice e) := by
        unfold tSlc at hs
        split at hs
        · exact ⟨_, by assumption⟩
        · cases hs
      obtain ⟨et, hu⟩ := hu
      have e2 : (Op.equal t (.slice a n c) (.slice none 0 0)).run P w = .ok r w := by
        have key : ∀ d, (Op.equalIn (d + 1) t (.slice a n c) (.slice none 0 0)).run P w = .ok r w := fun d => by
          cases a with
          | none => simp at e; subst e; simp [Op.equalIn, run_underlying hu]
          | some a => simp at e; subst e; simp [Op.equalIn, run_underlying hu]
        exact key 9999
      refine ⟨?_, ?_⟩
      · simp [eqGuard, binOp, e2]
      · simp [eqGuard, binOp, e2]
    · cases h
  · cases h
end

end Go.AM
