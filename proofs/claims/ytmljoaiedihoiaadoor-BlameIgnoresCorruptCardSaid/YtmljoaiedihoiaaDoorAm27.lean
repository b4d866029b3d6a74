/- Calls in drawn regions, behind guards and with rows of the caller's own. -/
import Derived.Test.YtmljoaiedihoiaaDoorAm26
namespace Go.AM
set_option linter.unusedVariables false
set_option linter.unusedSimpArgs false
open Go Go.RowKit
set_option linter.unusedSectionVars false
variable [Glob]

section
variable {P : Program} {N : Nat} {F : AHeap} {ops : List Oper} {us : List (Nat × Nat)} {Q : SPost} {t : Slots} {L : Locs} {n : Nat} {dn : List Ef} {rest : List Oper}

theorem ds_call_g {o : Oper} {c : Call} {f : FuncId} {args : List AV} {rd wr : Locs} {v : AV} {n' : Nat} (hc : o.op = .call c) (hw : awanted ops t o = some true) (hf : fits N o.dst = true) (hx : acallee t c = some (f, args)) (hp' : callable P f = true) (HC : Does P f args rd wr v)
    (hcall : isCall o.op = true) (hrd : ∀ p ∈ rd, hp F L p.1 = some p.2) (hwr : ∀ p ∈ wr, (∃ q ∈ rd, q.1 = p.1) ∨ (n ≤ p.1 ∧ p.1 < n')) (hnn : n ≤ n') (H : DS P N F ops us Q (dn ++ [⟨true, rd, wr, v⟩]) rest (aput t o.dst v) (wr ++ L) n') :
    DS P N F ops us Q dn (o :: rest) t L n := by
  have hlt : Fresh F L n → ∀ p ∈ wr, p.1 < n' := fun hfr p hp => by
    rcases hwr p hp with ⟨q, hq, e⟩ | h
    · have h1 := hrd q hq
      by_cases h2 : p.1 < n'
      · exact h2
      · exfalso
        rw [e, hfr p.1 (by omega)] at h1
        cases h1
    · exact h.2
  refine ds_cons (e := ⟨true, rd, wr, v⟩) (fun hfr => ⟨hf, hw, by simp, fun _ => ⟨hrd, fun p hp => ?_, callTri hc hx hp' HC (by rw [hc]; rfl)⟩⟩) (fun hm => ?_) rfl rfl (fun hfr => ?_) hnn (fun hfr k hk hm => ?_) H
  · rcases hwr p hp with h | ⟨h1, _⟩
    · exact .inl h
    · exact .inr (hfr p.1 h1)
  · rw [hc] at hm hcall
    obtain ⟨callee, cargs, ats⟩ := c
    cases callee <;> simp [mayWrite, isCall] at hm hcall
  · intro k hk
    rw [← hp_append, hp_ne]
    · exact hfr k (by omega)
    · intro p hp e
      have := hlt hfr p hp
      omega
  · simp only [wids, List.mem_map] at hm
    obtain ⟨p, hp', rfl⟩ := hm
    have := hlt hfr p hp'
    omega

theorem isCall_of {o : Oper} {c : Call} {f : FuncId} {args : List AV} (hc : o.op = .call c) (hx : acallee t c = some (f, args)) : isCall o.op = true := by
  rw [hc]; simp only [acallee] at hx; unfold isCall; split <;> simp_all

/-- A pure call, behind a guard or not. -/
theorem ds_pure_g {o : Oper} {c : Call} {f : FuncId} {args : List AV} {v : AV} (hc : o.op = .call c) (hw : Is (awanted ops t o) (some true)) (hf : fits N o.dst = true) (hx : Is (acallee t c) (some (f, args))) (hp' : callable P f = true) (HC : Pure P f args v)
    (H : DS P N F ops us Q (dn ++ [⟨true, [], [], v⟩]) rest (aput t o.dst v) L n) : DS P N F ops us Q dn (o :: rest) t L n :=
  ds_call_g hc hw hf hx hp' HC.does (isCall_of hc hx) (by simp) (by simp) (Nat.le_refl _) H

/-- A call whose result is a scalar, with rows of the caller's own. -/
theorem ds_view {o : Oper} {c : Call} {f : FuncId} {as xs : List AV} {rd : Locs} {x : Value} (k : Nat) (hc : o.op = .call c) (hw : Is (awanted ops t o) (some true)) (hf : fits N o.dst = true) (hx : Is (acallee t c) (some (f, as))) (hp' : callable P f = true) (HC : Pure P f xs (.p (.v x)))
    (hv : ∀ F' : AHeap, (∀ p ∈ rd, F' p.1 = some p.2) → as.mapM (viewA F' k) = some xs) (hrd : ∀ p ∈ rd, hp F L p.1 = some p.2)
    (H : DS P N F ops us Q (dn ++ [⟨true, rd, [], .p (.v x)⟩]) rest (aput t o.dst (.p (.v x))) L n) : DS P N F ops us Q dn (o :: rest) t L n :=
  ds_call_g hc hw hf hx hp' (does_view k HC hv) (isCall_of hc hx) hrd (by simp) (Nat.le_refl _) H
end

end Go.AM
