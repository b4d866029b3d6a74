/- Opening the arguments of a claim: what the reading tells, as abstract values. -/
import Derived.Test.YtmljoaiedihoiaaDoorAm22
import Derived.ChangeArms
import Derived.OpenShut
import Derived.WideShapes
import Derived.Deep.Slices
namespace Go.AM
set_option linter.unusedVariables false
set_option linter.unusedSimpArgs false
open Go Go.RowKit Go.ChangeShapes Go.WideShapes Go.Deep
set_option linter.unusedSectionVars false
variable [Glob]

/-- The shape of a type: whole numbers, bools, strings, slices (elements of n cells), structs and arrays. -/
inductive Sh where
  | int (k : IntKind)
  | bool
  | str
  | sl (n : Nat) (e : Sh)
  | agg (fs : List Sh)

mutual
def Sh.size : Sh → Nat
  | .agg fs => Sh.sizes fs
  | .int _ | .bool | .str | .sl _ _ => 1
def Sh.sizes : List Sh → Nat
  | [] => 0
  | f :: fs => f.size + Sh.sizes fs
end

mutual
def Wt : Sh → List PV → Prop
  | .int k, cs => ∃ n, cs = [.v (.int k n)] ∧ (Lit.int k n).wf = true
  | .bool, cs => ∃ b, cs = [.v (.bool b)]
  | .str, cs => ∃ s, cs = [.v (.string s)] ∧ s.size ≤ maxLen
  | .sl n e, cs => ∃ es, cs = [.sl n es] ∧ ∀ x ∈ es, Wt e x
  | .agg fs, cs => WtL fs cs
def WtL : List Sh → List PV → Prop
  | [], cs => cs = []
  | f :: fs, cs => ∃ a b, cs = a ++ b ∧ Wt f a ∧ WtL fs b
end

def partsOf (P : Program) (t : TypeId) : Option (List (Nat × TypeId)) :=
  match P.underlying t with
  | some (.struct l) => some (l.toList.map fun f => (f.offset, f.type))
  | some (.array n e) => some ((List.range n).map fun i => (i * P.cellsOf e, e))
  | _ => none

mutual
def shOk (P : Program) : Sh → TypeId → Bool
  | .int k, t => match P.underlying t with | some (.int k') => decide (k' = k) | _ => false
  | .bool, t => match P.underlying t with | some .bool => true | _ => false
  | .str, t => match P.underlying t with | some .string => true | _ => false
  | .sl n e, t => match P.underlying t with | some (.slice et) => P.cellsOf et == n && decide (0 < n) && e.size == n && shOk P e et | _ => false
  | .agg fs, t => P.cellsOf t == Sh.sizes fs && match partsOf P t with | some l => shOks P fs 0 l | none => false
def shOks (P : Program) : List Sh → Nat → List (Nat × TypeId) → Bool
  | [], _, [] => true
  | f :: fs, o, (o', t) :: r => o' == o && P.cellsOf t == f.size && shOk P f t && shOks P fs (o + f.size) r
  | [], _, _ :: _ => false
  | _ :: _, _, [] => false
end

/-- The memory at the start, as the ghost has it. -/
def mem (w : World) : Nat → Nat → Option Value := fun b o => (w.cell? ⟨b, o, none⟩).filter fun v => v.oneCell'

theorem mem_of {w : World} {b o : Nat} {v : Value} (h : w.cell? ⟨b, o, none⟩ = some v) (h1 : v.oneCell' = true) : mem w b o = some v := by
  unfold mem
  rw [h]
  exact Option.filter_eq_some_iff.2 ⟨rfl, h1⟩
theorem mem_to {w : World} {b o : Nat} {v : Value} (h : mem w b o = some v) : w.cell? ⟨b, o, none⟩ = some v ∧ v.oneCell' = true := by
  exact Option.filter_eq_some_iff.1 h

def PRelL (M : Nat → Nat → Option Value) : List PV → List Value → Prop
  | [], [] => True
  | p :: ps, v :: vs => PRel M p v ∧ v.oneCell' = true ∧ PRelL M ps vs
  | [], _ :: _ => False
  | _ :: _, [] => False

theorem PRelL.append {M : Nat → Nat → Option Value} : ∀ {ps qs : List PV} {vs us : List Value}, PRelL M ps vs → PRelL M qs us → PRelL M (ps ++ qs) (vs ++ us)
  | [], _, [], _, _, h => h
  | p :: ps, _, v :: vs, _, h, k => by
    simp only [PRelL, List.cons_append] at h ⊢
    exact ⟨h.1, h.2.1, PRelL.append h.2.2 k⟩
  | [], _, _ :: _, _, h, _ => by simp [PRelL] at h
  | _ :: _, _, [], _, h, _ => by simp [PRelL] at h

theorem PRelL.length {M : Nat → Nat → Option Value} : ∀ {ps : List PV} {vs : List Value}, PRelL M ps vs → ps.length = vs.length
  | [], [], _ => rfl
  | p :: ps, v :: vs, h => by simp only [PRelL] at h; simp [PRelL.length h.2.2]
  | [], _ :: _, h => by simp [PRelL] at h
  | _ :: _, [], h => by simp [PRelL] at h

theorem PRelL.rel {G : Gh} : ∀ {ps : List PV} {vs : List Value}, PRelL G.M ps vs → RelL G (ps.map AV.p) vs
  | [], [], _ => by simp [RelL]
  | p :: ps, v :: vs, h => by
    simp only [PRelL] at h
    simp only [List.map_cons, RelL, Rel]
    exact ⟨h.1, PRelL.rel h.2.2⟩
  | [], _ :: _, h => by simp [PRelL] at h
  | _ :: _, [], h => by simp [PRelL] at h

theorem PRelL.cells {w : World} {b : Nat} : ∀ {ps : List PV} {vs : List Value} {o : Nat}, PRelL (mem w) ps vs → (∀ i, i < vs.length → w.cell? ⟨b, o + i, none⟩ = vs[i]?) → PCells (mem w) b o ps
  | [], [], _, _, _ => by simp [PCells]
  | p :: ps, v :: vs, o, h, k => by
    simp only [PRelL] at h
    simp only [PCells]
    refine ⟨⟨v, mem_of (by simpa using k 0 (by simp)) h.2.1, h.1⟩, PRelL.cells h.2.2 fun i hi => ?_⟩
    have := k (i + 1) (by simp; omega)
    rw [show o + 1 + i = o + (i + 1) by omega]
    simpa using this
  | [], _ :: _, _, h, _ => by simp [PRelL] at h
  | _ :: _, [], _, h, _ => by simp [PRelL] at h

theorem PEls.of {M : Nat → Nat → Option Value} {b sz : Nat} : ∀ {es : List (List PV)} {o : Nat}, (∀ i e, es[i]? = some e → e.length = sz ∧ PCells M b (o + i * sz) e) → PEls M b o sz es
  | [], _, _ => by simp [PEls]
  | e :: es, o, h => by
    simp only [PEls]
    obtain ⟨h1, h2⟩ := h 0 e rfl
    refine ⟨h1, by simpa using h2, PEls.of fun i e' he => ?_⟩
    have := h (i + 1) e' (by simpa using he)
    rw [show o + sz + i * sz = o + (i + 1) * sz by rw [Nat.add_mul]; omega]
    exact this

theorem list_choose {α : Type} {n : Nat} {p : Nat → α → Prop} (h : ∀ i, i < n → ∃ a, p i a) : ∃ l : List α, l.length = n ∧ ∀ i a, l[i]? = some a → p i a := by
  induction n with
  | zero => exact ⟨[], rfl, by simp⟩
  | succ n ih =>
    obtain ⟨l, hl, hp⟩ := ih fun i hi => h i (by omega)
    obtain ⟨a, ha⟩ := h n (by omega)
    refine ⟨l ++ [a], by simp [hl], fun i x hx => ?_⟩
    rcases Nat.lt_or_ge i l.length with hi | hi
    · rw [List.getElem?_append_left hi] at hx
      exact hp i x hx
    · rw [List.getElem?_append_right hi] at hx
      have : i - l.length = 0 := by
        rcases Nat.eq_zero_or_pos (i - l.length) with h0 | h0
        · exact h0
        · rw [List.getElem?_eq_none (by simp; omega)] at hx; cases hx
      rw [this] at hx
      cases hx
      rw [show i = n by omega]
      exact ha

section
variable {H : Type} {enc : TypeId × Value → H} {P : Program} {w : World} {base : Nat} {spare : Nat → Bool} {held : Bool}

theorem trod_parts {t : TypeId} {fuel : Nat} {cs : List Value} {x : DataW H × List MemPlace} {l : List (Nat × TypeId)} (hp : partsOf P t = some l) (h : DataW.trod enc P w base spare held fuel t cs = some x) :
    cs.length = P.cellsOf t ∧ ∃ m, ∀ (i : Nat) (p : Nat × TypeId), l[i]? = some p → ∃ y, DataW.trod enc P w base spare held m p.2 ((cs.drop p.1).take (P.cellsOf p.2)) = some y := by
  unfold partsOf at hp
  split at hp
  · rename_i fs hu
    cases hp
    obtain ⟨xs, n, _, _, h1, h2, h3⟩ := DataW.trod_struct hu h
    refine ⟨h1, n, fun i p hi => ?_⟩
    simp only [List.getElem?_map, Array.getElem?_toList, Option.map_eq_some_iff] at hi
    obtain ⟨f, hf, rfl⟩ := hi
    have hlt : i < xs.length := by rw [h2]; exact (Array.getElem?_eq_some_iff.1 hf).1
    exact ⟨xs[i], by rw [h3 i f hf]; exact List.getElem?_eq_getElem hlt⟩
  · rename_i n e hu
    cases hp
    obtain ⟨xs, m, _, _, h1, h2, h3⟩ := DataW.trod_array hu h
    refine ⟨h1, m, fun i p hi => ?_⟩
    simp only [List.getElem?_map, Option.map_eq_some_iff] at hi
    obtain ⟨j, hj, rfl⟩ := hi
    obtain ⟨hlt, e1⟩ := List.getElem?_eq_some_iff.1 hj
    simp at hlt e1
    subst e1
    exact ⟨xs[i]'(by omega), by rw [h3 i hlt]; exact List.getElem?_eq_getElem (by omega)⟩
  · cases hp

mutual
theorem trod_wt : ∀ (sh : Sh) (t : TypeId) (fuel : Nat) (cs : List Value) (x : DataW H × List MemPlace), shOk P sh t = true → DataW.trod enc P w base spare held fuel t cs = some x →
    ∃ ps, Wt sh ps ∧ PRelL (mem w) ps cs ∧ cs.length = sh.size
  | .int k, t, fuel, cs, x, hs, h => by
    simp only [shOk] at hs
    split at hs
    · rename_i k' hu
      simp only [decide_eq_true_eq] at hs
      subst hs
      obtain ⟨n, rfl, _, hw⟩ := DataW.trod_int hu h
      exact ⟨[.v (.int k' n)], by simp only [Wt]; exact ⟨n, rfl, hw⟩, by simp [PRelL, PRel, Value.oneCell'], by simp [Sh.size]⟩
    · cases hs
  | .bool, t, fuel, cs, x, hs, h => by
    simp only [shOk] at hs
    split at hs
    · rename_i hu
      obtain ⟨b, rfl, _⟩ := DataW.trod_bool hu h
      exact ⟨[.v (.bool b)], by simp only [Wt]; exact ⟨b, rfl⟩, by simp [PRelL, PRel, Value.oneCell'], by simp [Sh.size]⟩
    · cases hs
  | .str, t, fuel, cs, x, hs, h => by
    simp only [shOk] at hs
    split at hs
    · rename_i hu
      obtain ⟨s, rfl, _, hm⟩ := DataW.trod_string hu h
      exact ⟨[.v (.string s)], by simp only [Wt]; exact ⟨s, rfl, hm⟩, by simp [PRelL, PRel, Value.oneCell'], by simp [Sh.size]⟩
    · cases hs
  | .sl n e, t, fuel, cs, x, hs, h => by
    simp only [shOk] at hs
    split at hs
    · rename_i et hu
      simp only [Bool.and_eq_true, beq_iff_eq, decide_eq_true_eq] at hs
      obtain ⟨⟨⟨h1, h2⟩, h3⟩, h4⟩ := hs
      rcases open_slice hu h with ⟨rfl, _⟩ | ⟨a, len, cap, m, k, D, Pl, rfl, hb, hl, hm, hmm, _, hx⟩
      · exact ⟨[.sl n []], by simp only [Wt]; exact ⟨[], rfl, by simp⟩, by simp only [PRelL, PRel]; exact ⟨⟨none, 0, 0, rfl, rfl, Nat.le_refl _, fun _ => rfl, .inl trivial⟩, rfl, trivial⟩, by simp [Sh.size]⟩
      · have hlm : len ≤ m := by rw [hmm]; split <;> omega
        obtain ⟨b, o, sp⟩ := a
        rcases Nat.eq_zero_or_pos len with h0 | h0
        · subst h0
          exact ⟨[.sl n []], by simp only [Wt]; exact ⟨[], rfl, by simp⟩, by simp only [PRelL, PRel]; exact ⟨⟨some ⟨b, o, sp⟩, 0, cap, rfl, rfl, hl, by simp, .inl trivial⟩, rfl, trivial⟩, by simp [Sh.size]⟩
        have hsp : sp = none := by
          obtain ⟨cs', c1, c2⟩ := hx 0 (by omega)
          obtain ⟨_, q1, q2⟩ := World.cells?_some c1
          rw [h1] at q1 q2
          have hc : 0 < cs'.length := by omega
          have := q2 0 (by omega)
          rw [List.getElem?_eq_getElem hc] at this
          have := World.cell?_spot this
          simpa [Addr.add] using this
        subst hsp
        obtain ⟨es, hlen, hes⟩ := list_choose (n := len) (p := fun i ps => Wt e ps ∧ ps.length = n ∧ PCells (mem w) b (o + i * n) ps) (fun i hi => by
          obtain ⟨cs', c1, c2⟩ := hx i (by omega)
          obtain ⟨ps, p1, p2, p3⟩ := trod_wt e et k cs' _ h4 c2
          obtain ⟨_, q1, q2⟩ := World.cells?_some c1
          rw [h1] at q1 q2
          refine ⟨ps, p1, by rw [PRelL.length p2, q1], PRelL.cells p2 fun j hj => ?_⟩
          have := q2 j (by omega)
          rw [add_plain, add_plain] at this
          rw [← this])
        have hwt : ∀ x ∈ es, Wt e x := by
          intro x hx
          obtain ⟨i, hi⟩ := List.getElem?_of_mem hx
          exact (hes i x hi).1
        refine ⟨[.sl n es], by simp only [Wt]; exact ⟨es, rfl, hwt⟩, ?_, by simp [Sh.size]⟩
        · simp only [PRelL, PRel]
          exact ⟨⟨some ⟨b, o, none⟩, len, cap, rfl, hlen.symm, hl, by simp, .inr ⟨b, o, rfl, PEls.of fun i x hx => (hes i x hx).2⟩⟩, rfl, trivial⟩
    · cases hs
  | .agg fs, t, fuel, cs, x, hs, h => by
    simp only [shOk, Bool.and_eq_true, beq_iff_eq] at hs
    obtain ⟨h1, hs⟩ := hs
    split at hs
    · rename_i l hl
      obtain ⟨h2, m, h3⟩ := trod_parts hl h
      obtain ⟨ps, p1, p2⟩ := trod_wts fs 0 l m cs hs (by rw [h2, h1]; omega) fun p hp => by
        obtain ⟨i, hi⟩ := List.getElem?_of_mem hp
        exact h3 i p hi
      exact ⟨ps, by simpa only [Wt] using p1, by simpa using p2, by rw [h2, h1]; simp [Sh.size]⟩
    · cases hs
theorem trod_wts : ∀ (fs : List Sh) (o : Nat) (l : List (Nat × TypeId)) (m : Nat) (cs : List Value), shOks P fs o l = true → cs.length = o + Sh.sizes fs →
    (∀ p ∈ l, ∃ y, DataW.trod enc P w base spare held m p.2 ((cs.drop p.1).take (P.cellsOf p.2)) = some y) → ∃ ps, WtL fs ps ∧ PRelL (mem w) ps (cs.drop o)
  | [], o, [], m, cs, _, hl, _ => ⟨[], by simp [WtL], by rw [List.drop_eq_nil_of_le (by simp [Sh.sizes] at hl; omega)]; simp [PRelL]⟩
  | f :: fs, o, (o', t) :: r, m, cs, hs, hl, h => by
    simp only [shOks, Bool.and_eq_true, beq_iff_eq] at hs
    obtain ⟨⟨⟨rfl, h1⟩, h2⟩, h3⟩ := hs
    obtain ⟨y, hy⟩ := h (o', t) (by simp)
    simp only at hy
    obtain ⟨ps, p1, p2, p3⟩ := trod_wt f t m _ y h2 hy
    simp only [Sh.sizes] at hl
    obtain ⟨qs, q1, q2⟩ := trod_wts fs (o' + f.size) r m cs h3 (by omega) fun p hp => h p (by simp [hp])
    refine ⟨ps ++ qs, by simp only [WtL]; exact ⟨ps, qs, rfl, p1, q1⟩, ?_⟩
    have e : cs.drop o' = (cs.drop o').take (P.cellsOf t) ++ cs.drop (o' + f.size) := by
      rw [h1, ← List.drop_drop, List.take_append_drop]
    rw [e]
    exact PRelL.append p2 q2
  | [], _, _ :: _, _, _, hs, _, _ => by simp [shOks] at hs
  | _ :: _, _, [], _, _, hs, _, _ => by simp [shOks] at hs
end

/-- An argument as an abstract value. -/
def argOf : Sh → List PV → AV
  | .agg _, ps => .agg (ps.map AV.p)
  | _, p :: _ => .p p
  | _, [] => .junk

theorem okWide_agg {r : Reach} {b0 : Nat} {t : TypeId} {v : Value} {l : List (Nat × TypeId)} (hp : partsOf P t = some l) (h : Value.okWide P w r b0 t v) : ∃ cs, v = .agg cs := by
  unfold partsOf at hp
  split at hp
  · rename_i fs hu
    simp only [Value.okWide, hu] at h
    obtain ⟨cs, e, _⟩ := h
    exact ⟨cs, e⟩
  · rename_i n e hu
    simp only [Value.okWide, hu] at h
    obtain ⟨cs, e, _⟩ := h
    exact ⟨cs, e⟩
  · cases hp

theorem open_arg {r : Reach} {b0 : Nat} {sh : Sh} {t : TypeId} {v : Value} {d : DataW H} {ps : List MemPlace} {G : Gh} (hG : G.M = mem w) (hs : shOk P sh t = true) (hv : Value.okWide P w r b0 t v)
    (h : DataW.Trod enc P w base spare held t v d ps) : ∃ cs, Wt sh cs ∧ Rel G (argOf sh cs) v := by
  obtain ⟨fuel, hf⟩ := h
  obtain ⟨cs, c1, c2, c3⟩ := trod_wt sh t fuel _ _ hs hf
  refine ⟨cs, c1, ?_⟩
  rw [← hG] at c2
  have key : v.cells.toList = [v] → ∀ p, cs = [p] → Rel G (.p p) v := by
    intro e p hp
    rw [e, hp] at c2
    simp only [PRelL] at c2
    simpa only [Rel] using c2.1
  cases sh with
  | int k =>
    simp only [shOk] at hs
    split at hs
    · rename_i k' hu
      obtain ⟨n, rfl⟩ := okWide_int hu hv
      simp only [Wt] at c1
      obtain ⟨m, rfl, _⟩ := c1
      exact key (by simp [Value.cells]) _ rfl
    · cases hs
  | bool =>
    simp only [shOk] at hs
    split at hs
    · rename_i hu
      obtain ⟨n, rfl⟩ := okWide_bool hu hv
      simp only [Wt] at c1
      obtain ⟨m, rfl⟩ := c1
      exact key (by simp [Value.cells]) _ rfl
    · cases hs
  | str =>
    simp only [shOk] at hs
    split at hs
    · rename_i hu
      obtain ⟨n, rfl⟩ := okWide_string hu hv
      simp only [Wt] at c1
      obtain ⟨m, rfl, _⟩ := c1
      exact key (by simp [Value.cells]) _ rfl
    · cases hs
  | sl n e =>
    simp only [shOk] at hs
    split at hs
    · rename_i et hu
      obtain ⟨a, len, cap, rfl⟩ := okWide_slice hu hv
      simp only [Wt] at c1
      obtain ⟨m, rfl, _⟩ := c1
      exact key (by simp [Value.cells]) _ rfl
    · cases hs
  | agg fs =>
    simp only [shOk, Bool.and_eq_true] at hs
    obtain ⟨_, hs⟩ := hs
    split at hs
    · rename_i l hl
      obtain ⟨vs, rfl⟩ := okWide_agg hl hv
      simp only [argOf, Rel]
      refine ⟨vs, rfl, ?_⟩
      have := PRelL.rel c2
      simpa [Value.cells] using this
    · cases hs

/-- The ghost at the start of a claim. -/
def gh0 (w : World) : Gh := { M := mem w, loc := fun _ _ => none, w0 := w }

theorem hrel0 (w : World) (hg : ∀ p ∈ Glob.tab, PCells (mem w) p.1 0 p.2) : HRel (gh0 w) (fun _ => none) w where
  below := Below.refl _ _
  imm := fun _ _ _ h => mem_to h
  blk := fun _ _ h => nomatch h
  sep := fun _ _ _ _ _ _ h => nomatch h
  dom := fun _ _ _ h => nomatch h
  top := fun _ _ _ h => nomatch h
  glb := hg

/-- The law's end: true, and nothing old was written. -/
theorem law_calls {f : FuncId} {args : List AV} {vs : List Value} (h : Pure P f args (ab true)) (hr : RelL (gh0 w) args vs) (hg : ∀ p ∈ Glob.tab, PCells (mem w) p.1 0 p.2) :
    Calls P f vs.toArray w fun e w' => e = .returned (.bool true) ∧ Below w.heap.size w w' := by
  refine (h (fun _ => none) 0 (fun k _ => rfl) (gh0 w) w vs (hrel0 w hg) hr).mono ?_
  rintro e w' ⟨v, G', r, h', rfl, hl, hh, hv, rfl, rfl⟩
  simp only [Rel, PRel] at hv
  subst hv
  refine ⟨rfl, ?_⟩
  have := hh.below
  rw [hl.w] at this
  exact this
end

theorem map_of {α β : Type} {f : α → β} {R : α → Prop} : ∀ {es : List β}, (∀ x ∈ es, ∃ a, R a ∧ x = f a) → ∃ l : List α, es = l.map f ∧ ∀ a ∈ l, R a
  | [], _ => ⟨[], rfl, by simp⟩
  | e :: es, h => by
    obtain ⟨a, ha, rfl⟩ := h e (by simp)
    obtain ⟨l, rfl, hl⟩ := map_of (es := es) fun x hx => h x (by simp [hx])
    exact ⟨a :: l, rfl, by simpa using ⟨ha, hl⟩⟩

end Go.AM
