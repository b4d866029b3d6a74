/- More short words. -/
import Derived.Test.YtmljoaiedihoiaaDoorAm23
namespace Go.AM
set_option linter.unusedVariables false
set_option linter.unusedSimpArgs false
open Go Go.RowKit
set_option linter.unusedSectionVars false
variable [Glob]

section
variable {P : Program} {N : Nat} {F : AHeap} {Q : SPost} {t : Slots} {L : Locs} {n : Nat}

/-- One operation that is no call. -/
theorem ss_op {ops rest : List Oper} {o : Oper} {t' : Slots} {L' : Locs} {n' : Nat} (hc : isCall o.op = false) (h : Is (step1 P N F ops o (some (t, L, n))) (some (t', L', n'))) (H : SS P N F ops Q rest t' L' n') : SS P N F ops Q (o :: rest) t L n :=
  ss_step1 h H

/-- A call behind a guard that lets it through. -/
theorem ss_pure_g {ops rest : List Oper} {o : Oper} {c : Call} {f : FuncId} {args : List AV} {v : AV} (hc : o.op = .call c) (hw : Is (awanted ops t o) (some true)) (hf : fits N o.dst = true) (hx : Is (acallee t c) (some (f, args))) (hp' : callable P f = true) (HC : Pure P f args v)
    (H : SS P N F ops Q rest (aput t o.dst v) L n) : SS P N F ops Q (o :: rest) t L n :=
  fun hfr => aseq_call hc hw hf hx hp' (HC (hp F L) n (fun k hk => hfr k hk)) fun r h' ⟨e, hr⟩ => by rw [e, hr]; exact H hfr

/-- An operation whose guard holds it back. -/
theorem ss_off {ops rest : List Oper} {o : Oper} (hw : Is (awanted ops t o) (some false)) (hf : fits N o.dst = true) (H : SS P N F ops Q rest (aput t o.dst (.p (.v undef))) L n) : SS P N F ops Q (o :: rest) t L n :=
  ss_step1 (by simp only [step1]; rw [show awanted ops t o = some false from hw]; simp only [fin1]; rw [if_pos hf]) H

theorem ds_pure {ops : List Oper} {us : List (Nat × Nat)} {dn : List Ef} {rest : List Oper} {o : Oper} {c : Call} {f : FuncId} {args : List AV} {v : AV} (hc : o.op = .call c) (hg : o.guard = none) (hf : fits N o.dst = true) (hx : Is (acallee t c) (some (f, args))) (hp' : callable P f = true) (HC : Pure P f args v)
    (H : DS P N F ops us Q (dn ++ [⟨true, [], [], v⟩]) rest (aput t o.dst v) L n) : DS P N F ops us Q dn (o :: rest) t L n :=
  ds_call hc hg hf hx hp' HC.does (by rw [hc]; simp only [acallee, Is] at hx; unfold isCall; split <;> simp_all) (by simp) (by simp) (Nat.le_refl _) H

/-- One operation of a drawn region. -/
theorem ds_op {ops : List Oper} {us : List (Nat × Nat)} {dn : List Ef} {rest : List Oper} {o : Oper} {t' : Slots} {L' : Locs} {n' : Nat} {d : List Ef} (hc : isCall o.op = false) (h : Is (runE P N F ops [o] (some ((t, L, n), []))) (some ((t', L', n'), d)))
    (H : DS P N F ops us Q (dn ++ d) rest t' L' n') : DS P N F ops us Q dn (o :: rest) t L n :=
  ds_run (l := [o]) rfl h H
end

/-- Where nobody writes. -/
theorem disAll_quiet {es : List Ef} : ∀ {us : List (Nat × Nat)}, (∀ e ∈ es, e.wr = []) → disAll es us
  | [], _ => trivial
  | p :: r, h => by
    simp only [disAll]
    refine ⟨?_, disAll_quiet h⟩
    split
    · rename_i x y hx hy
      have h1 : wids x = [] := by simp [wids, h x (List.mem_of_getElem? hx)]
      have h2 : wids y = [] := by simp [wids, h y (List.mem_of_getElem? hy)]
      simp only [EDisj, h1, h2]
      simp
    · trivial

theorem drop_cons {α : Type} {l : List α} {k : Nat} {x : α} (h : l[k]? = some x) : l.drop k = x :: l.drop (k + 1) := by
  obtain ⟨h1, h2⟩ := List.getElem?_eq_some_iff.1 h
  rw [← h2]; exact List.drop_eq_getElem_cons h1

theorem take_snoc {α : Type} {l : List α} {k : Nat} {x : α} (h : l[k]? = some x) : l.take (k + 1) = l.take k ++ [x] := by
  rw [List.take_add_one, h]; rfl

theorem get_lt {α : Type} {l : List α} {k : Nat} (h : k < l.length) : ∃ x, l[k]? = some x := ⟨l[k], List.getElem?_eq_getElem h⟩

theorem wrap_succ {k n : Nat} (h : k < n) (hn : Small n) : IntKind.i64.wrap ((k : Int) + 1) = ((k + 1 : Nat) : Int) := by
  have := hn.lt
  rw [i64_in (by omega)]; simp

end Go.AM
