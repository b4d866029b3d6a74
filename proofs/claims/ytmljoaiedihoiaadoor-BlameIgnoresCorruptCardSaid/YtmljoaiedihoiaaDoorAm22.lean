/- Small words for proofs: ints and words, nil slices, the ways a state is looked at. -/
import Derived.Test.YtmljoaiedihoiaaDoorAm21
namespace Go.AM
set_option linter.unusedVariables false
set_option linter.unusedSimpArgs false
open Go Go.RowKit
set_option linter.unusedSectionVars false
variable [Glob]

abbrev pi (n : Int) : PV := .v (.int .i64 n)
abbrev pu (n : Int) : PV := .v (.int .u64 n)
abbrev pb (b : Bool) : PV := .v (.bool b)
abbrev ai (n : Int) : AV := .p (pi n)
abbrev au (n : Int) : AV := .p (pu n)
abbrev ab (b : Bool) : AV := .p (pb b)
/-- A list of ints, of words: elements of one cell. -/
def ints (l : List Int) : List (List PV) := l.map fun n => [pi n]
def words (l : List Int) : List (List PV) := l.map fun n => [pu n]
def bools (l : List Bool) : List (List PV) := l.map fun n => [pb n]

@[simp] theorem ints_length (l : List Int) : (ints l).length = l.length := by simp [ints]
@[simp] theorem words_length (l : List Int) : (words l).length = l.length := by simp [words]
@[simp] theorem bools_length (l : List Bool) : (bools l).length = l.length := by simp [bools]
@[simp] theorem ints_get (l : List Int) (i : Nat) : (ints l)[i]? = (l[i]?).map fun n => [pi n] := by simp [ints]
@[simp] theorem words_get (l : List Int) (i : Nat) : (words l)[i]? = (l[i]?).map fun n => [pu n] := by simp [words]
@[simp] theorem bools_get (l : List Bool) (i : Nat) : (bools l)[i]? = (l[i]?).map fun n => [pb n] := by simp [bools]
theorem ints_take (l : List Int) (n : Nat) : (ints l).take n = ints (l.take n) := by simp [ints]
theorem ints_drop (l : List Int) (n : Nat) : (ints l).drop n = ints (l.drop n) := by simp [ints]
theorem words_take (l : List Int) (n : Nat) : (words l).take n = words (l.take n) := by simp [words]
theorem words_drop (l : List Int) (n : Nat) : (words l).drop n = words (l.drop n) := by simp [words]

/-- The cells of a row of ints that the call owns. -/
abbrev rints (l : List Int) : List (List AV) := pcells (ints l)
abbrev rwords (l : List Int) : List (List AV) := pcells (words l)

@[simp] theorem pcells_length (l : List (List PV)) : (pcells l).length = l.length := by simp [pcells]
@[simp] theorem pcells_get (l : List (List PV)) (i : Nat) : (pcells l)[i]? = (l[i]?).map fun e => e.map AV.p := by simp [pcells]
theorem pcells_set (l : List (List PV)) (i : Nat) (e : List PV) : (pcells l).set i (e.map AV.p) = pcells (l.set i e) := by simp [pcells, List.map_set]
theorem rints_set (l : List Int) (i : Nat) (x : Int) : (pcells (ints l)).set i [.p (.v (.int .i64 x))] = pcells (ints (l.set i x)) := by
  rw [show ints (l.set i x) = (ints l).set i [pi x] by simp [ints, List.map_set], ← pcells_set]; rfl
theorem rwords_set (l : List Int) (i : Nat) (x : Int) : (pcells (words l)).set i [.p (.v (.int .u64 x))] = pcells (words (l.set i x)) := by
  rw [show words (l.set i x) = (words l).set i [pu x] by simp [words, List.map_set], ← pcells_set]; rfl
theorem rints_app (l : List Int) (x : Int) : pcells (ints l) ++ [[AV.p (.v (.int .i64 x))]] = pcells (ints (l ++ [x])) := by simp [pcells, ints]
theorem rwords_app (l : List Int) (x : Int) : pcells (words l) ++ [[AV.p (.v (.int .u64 x))]] = pcells (words (l ++ [x])) := by simp [pcells, words]
theorem rints_zero (n : Nat) : List.replicate n [AV.p (.v (.int .i64 0))] = pcells (ints (List.replicate n 0)) := by simp [pcells, ints]
theorem rwords_zero (n : Nat) : List.replicate n [AV.p (.v (.int .u64 0))] = pcells (words (List.replicate n 0)) := by simp [pcells, words]

theorem convE_self {D : Nat → Prop} (es : List (List PV)) : convE D noA (pcells es) (pcells es) := by
  refine convE_self_of ?_
  rw [flat_pcells]
  generalize es.flatten = l
  induction l with
  | nil => simp [convL]
  | cons x l ih => simp only [List.map_cons, convL]; exact ⟨by simp [conv], ih⟩

@[simp] theorem convE_pcells {D : Nat → Prop} (es : List (List PV)) : convE D noA (pcells es) (pcells es) = True := by simp only [convE_self]

theorem nil_rel {G : Gh} {sz : Nat} {v : Value} (h : Rel G (.p (.v (.slice none 0 0))) v) : Rel G (.p (.sl sz [])) v := by
  simp only [Rel, PRel] at h ⊢
  subst h
  exact ⟨none, 0, 0, rfl, rfl, Nat.le_refl _, fun _ => rfl, .inl trivial⟩

theorem WeakL.nil {F h h' : AHeap} {xs : List AV} {sz : Nat} (H : WeakL F xs h [.p (.v (.slice none 0 0))] h') : WeakL F xs h [.p (.sl sz [])] h' := by
  intro G0 G w vs ha hl hh hr
  obtain ⟨G', l', h2, r2⟩ := H G0 G w vs ha hl hh hr
  refine ⟨G', l', h2, ?_⟩
  cases vs with
  | nil => simp [RelL] at r2
  | cons v vs => simp only [RelL] at r2 ⊢; exact ⟨nil_rel r2.1, r2.2⟩

section
variable {P : Program} {N : Nat} {F : AHeap} {Q : SPost} {t : Slots} {L : Locs} {n : Nat}

/-- A call of a function that leaves memory as it was. -/
theorem ss_pure {ops rest : List Oper} {o : Oper} {c : Call} {f : FuncId} {args : List AV} {v : AV} (hc : o.op = .call c) (hg : o.guard = none) (hf : fits N o.dst = true) (hx : Is (acallee t c) (some (f, args))) (hp' : callable P f = true) (HC : Pure P f args v)
    (H : SS P N F ops Q rest (aput t o.dst v) L n) : SS P N F ops Q (o :: rest) t L n :=
  ss_call hc hg hf hx hp' (R := fun r => r = v) (fun hfr => HC (hp F L) n (fun k hk => hfr k hk)) fun r e => by rw [e]; exact H

theorem pure_of {f : FuncId} {fn : Func} {c : Code} {args : List AV} {v : AV} {N : Nat} (hf : P.funcs[f]? = some fn) (hb : fn.body = some c) (hN : fn.ntmps = N) (hl : args.length ≤ N)
    (H : ∀ F n, Fresh F [] n → (∀ k, F (n + k) = none) → F n = none → SW P N F c (send P F fn.results.toList (fun r h' => h' = F ∧ r = v)) (argSlots 0 args) [] n) : Pure P f args v :=
  fun F n hF => acalls_sw hf hb hN hl hF (H F n hF (fun k => hF (n + k) (by omega)) (hF n (Nat.le_refl _)))

theorem fresh_of {F : AHeap} {n : Nat} (hF : Fresh F [] n) {L : Locs} {m : Nat} (hm : n ≤ m) (hL : ∀ p ∈ L, p.1 < m) : Fresh F L m := by
  intro k hk
  rw [hp_ne]
  · exact hF k (by omega)
  · intro p hp e
    have := hL p hp
    omega

end

section
variable {P : Program} {F : AHeap} {t : Slots} {L : Locs} {n : Nat}

theorem frzA_own {id ver sz i v off len : Nat} {es : List (List PV)} {y : AV} : frzA id ver sz es (.own i v off len) y = (i = id ∧ v = ver ∧ y = .p (.sl sz ((es.drop off).take len))) := by
  apply propext
  constructor
  · rintro ⟨o, l, h, e⟩; cases h; exact ⟨rfl, rfl, e⟩
  · rintro ⟨rfl, rfl, e⟩; exact ⟨off, len, rfl, e⟩
theorem frzA_p {id ver sz : Nat} {es : List (List PV)} {x : PV} {y : AV} : frzA id ver sz es (.p x) y = False := by
  apply propext
  constructor
  · rintro ⟨o, l, h, e⟩; cases h
  · exact False.elim

/-- The end: a row of the call's own is handed back. -/
theorem end_own {rs : List ResultVar} {R : AV → AHeap → Prop} {id ver len sz : Nat} {e : TypeId} {es : List (List PV)} {ro : List (List AV)} (hr : Is (ares P t (hp F L) rs) (some (.own id ver 0 len))) (hk : Is (hp F L id) (some (.row ver e sz ro)))
    (he : ro = pcells es) (hl : len = es.length) (hid : F id = none) (hs : shed F [] L) (H : R (.p (.sl sz es)) F) : send P F rs R .ret t L n := by
  subst he hl
  refine end_ret hr (fun _ => weak_frozen (es := es) hk hid ?_ hs) H
  simp only [conv, frzA_own, List.drop_zero, List.take_length]
  exact .inr (.inl ⟨trivial, trivial, trivial⟩)

/-- The end: nil is handed back. -/
theorem end_nil {rs : List ResultVar} {R : AV → AHeap → Prop} {sz : Nat} (hr : Is (ares P t (hp F L) rs) (some (.p (.v (.slice none 0 0))))) (hs : shed F [] L) (H : R (.p (.sl sz [])) F) : send P F rs R .ret t L n :=
  end_ret hr (fun _ => WeakL.nil (weak_plain (by simp [conv]) hs)) H

/-- The end: a plain value is handed back. -/
theorem end_val {rs : List ResultVar} {R : AV → AHeap → Prop} {x : PV} (hr : Is (ares P t (hp F L) rs) (some (.p x))) (hs : shed F [] L) (H : R (.p x) F) : send P F rs R .ret t L n :=
  end_ret hr (fun _ => weak_plain (by simp [conv]) hs) H
end

/-- What is left of a region, all of it. -/
theorem ss_all {P : Program} {N : Nat} {F : AHeap} {Q : SPost} {t : Slots} {L : Locs} {n : Nat} {ops l : List Oper} {t' : Slots} {L' : Locs} {n' : Nat} (h : Is (runL P N F ops l (some (t, L, n))) (some (t', L', n'))) (H : Q .normal t' L' n') : SS P N F ops Q l t L n :=
  ss_run (rest := []) (List.append_nil l).symm h (ss_nil H)
theorem ds_all {P : Program} {N : Nat} {F : AHeap} {Q : SPost} {t : Slots} {L : Locs} {n : Nat} {ops l : List Oper} {us : List (Nat × Nat)} {dn : List Ef} {t' : Slots} {L' : Locs} {n' : Nat} {d : List Ef}
    (h : Is (runE P N F ops l (some ((t, L, n), []))) (some ((t', L', n'), d))) (hd : disAll (dn ++ d) us) (H : Q .normal t' L' n') : DS P N F ops us Q dn l t L n :=
  ds_run (rest := []) (List.append_nil l).symm h (ds_nil hd H)

/-- A loop, with what holds of the state at its head. -/
theorem sw_loopI {P : Program} {N : Nat} {F : AHeap} {Q : SPost} {t : Slots} {L : Locs} {n : Nat} {c : Code} {α : Type} (T : α → Slots) (H : α → Locs) (k : α → Nat) (I : α → Prop) (μ : α → Nat) (x0 : α) (h0 : I x0)
    (start : Fresh F L n → Weak N F t (hp F L) (T x0) (hp F (H x0))) (hfr : ∀ x, Fresh F (H x) (k x))
    (round : ∀ x, I x → SW P N F c (sthen (fun t' L' n' => ∃ y, I y ∧ μ y < μ x ∧ Weak N F t' (hp F L') (T y) (hp F (H y))) Q) (T x) (H x) (k x)) : SW P N F (.loop c) Q t L n :=
  sw_loop (α := { x : α // I x }) (fun x => T x.1) (fun x => H x.1) (fun x => k x.1) (fun x => μ x.1) ⟨x0, h0⟩ start (fun x => hfr x.1) fun x => sw_mono (round x.1 x.2) fun e t' L' n' q => by
    cases e with
    | normal => obtain ⟨y, h1, h2, h3⟩ := q; exact ⟨⟨y, h1⟩, h3, h2⟩
    | _ => exact q

theorem i64_in {x : Int} (h : -9223372036854775808 ≤ x ∧ x < 9223372036854775808) : IntKind.i64.wrap x = x := by
  rw [IntKind.wrap_i64]; omega

theorem zap_int {n : Nat} : (n : Int).toNat = n := Int.toNat_natCast n

end Go.AM
