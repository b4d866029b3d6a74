/- Cells read and written. -/
import Derived.Test.YtmljoaiedihoiaaDoorAm5
namespace Go.AM
set_option linter.unusedVariables false
set_option linter.unusedSimpArgs false
open Go Go.RowKit
set_option linter.unusedSectionVars false
variable [Glob]

def isAggD : TypeDesc → Bool
  | .struct _ | .array .. => true
  | _ => false
/-- Is it a struct or an array; how many cells has it. -/
def tAgg (P : Program) (t : TypeId) : Option (Bool × Nat) := (P.underlying t).bind fun d => (P.info? t).map fun i => (isAggD d, i.size)

def splice {α : Type} (c : List α) (j : Nat) (x : List α) : List α := c.take j ++ (x ++ c.drop (j + x.length))

theorem flatten_drop {α : Type} {sz : Nat} : ∀ {es : List (List α)} (i : Nat), (∀ e ∈ es, e.length = sz) → es.flatten.drop (i * sz) = (es.drop i).flatten
  | [], _, _ => by simp
  | e :: es, 0, _ => by simp
  | e :: es, i + 1, h => by
    have he := h e (by simp)
    rw [List.flatten_cons, Nat.succ_mul, List.drop_succ_cons, ← flatten_drop i fun x hx => h x (by simp [hx])]
    rw [show i * sz + sz = e.length + i * sz by omega, List.drop_append]
    simp

theorem flatten_at {α : Type} {sz : Nat} {es : List (List α)} {i : Nat} {c : List α} (h : ∀ e ∈ es, e.length = sz) (hi : es[i]? = some c) (j n : Nat) (hj : j + n ≤ c.length) :
    (es.flatten.drop (i * sz + j)).take n = (c.drop j).take n := by
  rw [← List.drop_drop, flatten_drop i h]
  have : es.drop i = c :: es.drop (i + 1) := by
    obtain ⟨hlt, rfl⟩ := List.getElem?_eq_some_iff.1 hi
    exact List.drop_eq_getElem_cons hlt
  rw [this, List.flatten_cons, List.drop_append_of_le_length (by omega), List.take_append_of_le_length (by simp; omega)]

theorem flatten_len {α : Type} {sz : Nat} : ∀ {es : List (List α)}, (∀ e ∈ es, e.length = sz) → es.flatten.length = es.length * sz
  | [], _ => by simp
  | e :: es, h => by
    simp only [List.flatten_cons, List.length_append, List.length_cons, Nat.succ_mul]
    rw [h e (by simp), flatten_len fun x hx => h x (by simp [hx])]; omega

theorem flatten_set {α : Type} {sz : Nat} : ∀ {es : List (List α)} {i : Nat} {c d : List α}, (∀ e ∈ es, e.length = sz) → es[i]? = some c → d.length = sz → (es.set i d).flatten = splice es.flatten (i * sz) d
  | [], _, _, _, _, h, _ => by simp at h
  | e :: es, 0, c, d, h, hi, hd => by
    have he := h e (by simp)
    simp only [List.set_cons_zero, List.flatten_cons, splice, Nat.zero_mul, List.take_zero, List.nil_append, Nat.zero_add]
    rw [List.drop_append, hd, ← he]; simp
  | e :: es, i + 1, c, d, h, hi, hd => by
    have he := h e (by simp)
    have ih := flatten_set (es := es) (i := i) (c := c) (fun x hx => h x (by simp [hx])) (by simpa using hi) hd
    simp only [List.set_cons_succ, List.flatten_cons, ih, splice]
    rw [Nat.succ_mul, List.take_append, List.drop_append]
    simp only [he]
    rw [List.take_of_length_le (l := e) (by omega), List.drop_eq_nil_of_le (as := e) (by omega)]
    simp only [List.nil_append, List.append_assoc]
    congr 2
    · congr 1; omega
    · congr 2; omega

theorem splice_splice {α : Type} (L c : List α) (i j : Nat) (x : List α) (hc : (L.drop i).take c.length = c) (hj : j + x.length ≤ c.length) (hi : i + c.length ≤ L.length) :
    splice L i (splice c j x) = splice L (i + j) x := by
  have hl : (splice c j x).length = c.length := by simp only [splice, List.length_append, List.length_take, List.length_drop]; omega
  have hL : L = L.take i ++ (c ++ L.drop (i + c.length)) := by
    rw [← List.drop_drop]
    conv => lhs; rw [← List.take_append_drop i L]
    congr 1
    conv => lhs; rw [← List.take_append_drop c.length (L.drop i), hc]
  have hti : (L.take i).length = i := by rw [List.length_take]; omega
  simp only [splice] at hl ⊢
  rw [hl]
  conv => rhs; rw [hL]
  rw [List.take_append, List.take_append, List.drop_append, List.drop_append, hti]
  rw [List.take_of_length_le (l := L.take i) (by omega), List.drop_eq_nil_of_le (as := L.take i) (by omega)]
  rw [show i + j - i = j by omega, show i + j + x.length - i = j + x.length by omega]
  rw [show j - c.length = 0 by omega, show j + x.length - c.length = 0 by omega]
  simp [List.append_assoc]

/-- The cells behind an address. -/
def acells (h : AHeap) (n : Nat) : AV → Option (List AV)
  | .ptr id ver i j =>
    match h id with
    | some (.row ver' _ _ es) => if ver' = ver then (match es[i]? with | some c => if j + n ≤ c.length then some ((c.drop j).take n) else none | none => none) else none
    | none => none
  | .iptr cs => if n ≤ cs.length then some ((cs.take n).map AV.p) else none
  | _ => none

theorem ptr_add (g o j : Nat) : (⟨g, o, none⟩ : Addr).add j = ⟨g, o + j, none⟩ := by unfold Addr.add; split <;> simp_all

theorem PCells.vals {M : Nat → Nat → Option Value} {b : Nat} : ∀ {cs : List PV} {o : Nat}, PCells M b o cs → ∃ vs : List Value, vs.length = cs.length ∧ (∀ (j : Nat) (v : Value), vs[j]? = some v → M b (o + j) = some v) ∧
    ∀ {G : Gh}, G.M = M → RelL G (cs.map AV.p) vs
  | [], _, _ => ⟨[], rfl, by simp, fun _ => by simp [RelL]⟩
  | c :: cs, o, h => by
    simp only [PCells] at h
    obtain ⟨⟨y, h1, h2⟩, h3⟩ := h
    obtain ⟨vs, l, g, r⟩ := PCells.vals h3
    refine ⟨y :: vs, by simp [l], fun j v hv => ?_, fun hG => ?_⟩
    · cases j with
      | zero => simp at hv; subst hv; simpa using h1
      | succ j => have := g j v (by simpa using hv); rwa [show o + 1 + j = o + (j + 1) by omega] at this
    · simp only [List.map_cons, RelL, Rel]; exact ⟨hG ▸ h2, r hG⟩

theorem PCells.take {M : Nat → Nat → Option Value} {b : Nat} : ∀ {cs : List PV} {o : Nat} (n : Nat), PCells M b o cs → PCells M b o (cs.take n)
  | [], _, _, _ => by simp [PCells]
  | c :: cs, o, 0, h => by simp [PCells]
  | c :: cs, o, n + 1, h => by simp only [List.take_succ_cons, PCells] at h ⊢; exact ⟨h.1, PCells.take n h.2⟩

theorem acells_rel {G : Gh} {h : AHeap} {w : World} (H : HRel G h w) {n : Nat} {x : AV} {cs : List AV} (hc : acells h n x = some cs) {y : Value} (r : Rel G x y) :
    ∃ g o vs, y = .pointer (some ⟨g, o, none⟩) ∧ vs.length = n ∧ (∀ (j : Nat) (v : Value), vs[j]? = some v → w.cell? ⟨g, o + j, none⟩ = some v) ∧ RelL G cs vs := by
  cases x with
  | ptr id ver i j =>
    simp only [Rel] at r
    obtain ⟨g, n0, c0, sz, hl, rfl⟩ := r
    simp only [acells] at hc
    cases hk : h id with
    | none => rw [hk] at hc; cases hc
    | some k =>
      cases k with
      | row ver' e sz' es =>
        rw [hk] at hc
        simp only at hc
        by_cases hv : ver' = ver
        · rw [if_pos hv] at hc
          subst hv
          cases hi : es[i]? with
          | none => rw [hi] at hc; cases hc
          | some c =>
            rw [hi] at hc
            simp only at hc
            by_cases hj : j + n ≤ c.length
            · rw [if_pos hj] at hc
              cases hc
              obtain ⟨v, xs, l1, o1, r1, s1, _, _⟩ := H.blk id _ hk
              rw [hl] at l1
              cases l1
              have hxl := r1.length
              rw [flatten_len s1] at hxl
              have hcl := s1 c (List.mem_of_getElem? hi)
              have hil : i < es.length := (List.getElem?_eq_some_iff.1 hi).1
              have hmul : i * sz + sz ≤ es.length * sz := by rw [← Nat.succ_mul]; exact Nat.mul_le_mul_right _ hil
              have hn0 : n0 = es.length := by rcases o1.2 with ⟨e1, _⟩ | ⟨_, _, _, e1, _⟩ <;> cases e1; rfl
              subst hn0
              refine ⟨g, i * sz + j, (xs.drop (i * sz + j)).take n, rfl, ?_, fun k v hv => ?_, ?_⟩
              · rw [List.length_take, List.length_drop]; omega
              · rw [List.getElem?_take] at hv
                split at hv
                · rw [List.getElem?_drop] at hv
                  rw [World.ownsRow.cellAt o1 _ (by omega)]; exact hv
                · cases hv
              · rw [← flatten_at s1 hi j n hj]; exact RelL.take n (RelL.drop _ r1)
            · rw [if_neg hj] at hc; cases hc
        · rw [if_neg hv] at hc; cases hc
  | iptr ps =>
    simp only [Rel] at r
    obtain ⟨b, o, rfl, hp⟩ := r
    simp only [acells] at hc
    split at hc
    · rename_i hn
      cases hc
      obtain ⟨vs, l, gm, rr⟩ := PCells.vals (PCells.take n hp)
      exact ⟨b, o, vs, rfl, by rw [l, List.length_take]; omega, fun j v hv => (H.imm _ _ _ (gm j v hv)).1, rr rfl⟩
    · cases hc
  | p x => simp [acells] at hc
  | own => simp [acells] at hc
  | sub => simp [acells] at hc
  | agg => simp [acells] at hc
  | tup => simp [acells] at hc
  | fn => simp [acells] at hc
  | ifc => simp [acells] at hc
  | junk => simp [acells] at hc

/-- What a load of a type yields. -/
def aload (P : Program) (h : AHeap) (t : TypeId) (x : AV) : Option AV :=
  match tAgg P t with
  | some (true, n) => (acells h n x).map AV.agg
  | some (false, _) => (acells h 1 x).bind fun cs => cs.head?
  | none => none

theorem run_isAgg {P : Program} {t : TypeId} {ag : Bool} {n : Nat} (h : tAgg P t = some (ag, n)) (w : World) : (isAgg t).run P w = .ok ag w ∧ (sizeOf t).run P w = .ok n w := by
  unfold tAgg at h
  cases hd : P.underlying t with
  | none => simp [hd] at h
  | some d =>
    cases hi : P.info? t with
    | none => simp [hd, hi] at h
    | some i =>
      simp [hd, hi] at h
      obtain ⟨rfl, rfl⟩ := h
      refine ⟨?_, by simp [sizeOf, typeInfo, hi]⟩
      unfold isAgg
      simp only [Sem.run_bind, run_underlying hd, Result.andThen_ok]
      cases d <;> rfl

theorem aload_rel {P : Program} {G : Gh} {h : AHeap} {w : World} (H : HRel G h w) {t : TypeId} {x v : AV} (hl : aload P h t x = some v) {y : Value} (r : Rel G x y) :
    ∃ u, (Instr.loadAt t y).run P w = .ok u w ∧ Rel G v u := by
  unfold aload at hl
  cases ht : tAgg P t with
  | none => rw [ht] at hl; cases hl
  | some q =>
    obtain ⟨ag, n⟩ := q
    obtain ⟨ha, hs⟩ := run_isAgg ht w
    rw [ht] at hl
    cases ag with
    | true =>
      simp only [Option.map_eq_some_iff] at hl
      obtain ⟨cs, hc, rfl⟩ := hl
      obtain ⟨g, o, vs, rfl, hlen, hcell, hr⟩ := acells_rel H hc r
      have := run_loadCells_list (P := P) w ⟨g, o, none⟩ vs (fun j v hv => by rw [ptr_add]; exact hcell j v hv)
      rw [hlen] at this
      refine ⟨.agg vs.toArray, ?_, by simp only [Rel]; exact ⟨_, rfl, by simpa using hr⟩⟩
      simp [Instr.loadAt, Instr.sureAddr, loadVar, ha, hs, this]
    | false =>
      simp only [Option.bind_eq_some_iff] at hl
      obtain ⟨cs, hc, hh⟩ := hl
      obtain ⟨g, o, vs, rfl, hlen, hcell, hr⟩ := acells_rel H hc r
      cases vs with
      | nil => simp at hlen
      | cons u vs =>
        cases cs with
        | nil => simp at hh
        | cons c cs =>
          simp at hh
          subst hh
          simp only [RelL] at hr
          refine ⟨u, ?_, hr.1⟩
          have := hcell 0 u rfl
          simp only [Nat.add_zero] at this
          simp [Instr.loadAt, Instr.sureAddr, loadVar, ha, this]

end Go.AM
