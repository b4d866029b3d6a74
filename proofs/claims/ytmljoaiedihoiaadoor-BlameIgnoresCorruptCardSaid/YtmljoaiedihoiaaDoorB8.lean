/- What look says; slices.Index and Contains; blame.Detected. -/
import Derived.Test.YtmljoaiedihoiaaDoorB7
import Derived.Test.YtmljoaiedihoiaaDoorAm31
namespace Go.AM
set_option linter.unusedVariables false
set_option linter.unusedSimpArgs false
open Go Go.RowKit Go.Proofs

/-! ### The plain law of look -/

theorem outs_get {q : Int} : ∀ {l m : List Bool} {i s : Nat}, q < m.length → s < m.length → (outsL q m i l)[s]? = some (if i < s ∧ s ≤ i + l.length ∧ (s : Int) ≤ q then l.getD (s - 1 - i) false else m.getD s false)
  | [], m, i, s, _, hs => by
    rw [outsL, if_neg (by simp; omega), List.getD_eq_getElem?_getD, List.getElem?_eq_getElem hs]; rfl
  | x :: r, m, i, s, hq, hs => by
    rw [outsL, outs_get (l := r) (by split <;> simpa using hq) (by split <;> simpa using hs)]
    congr 1
    simp only [List.length_cons]
    by_cases h1 : i + 1 < s ∧ s ≤ i + 1 + r.length ∧ (s : Int) ≤ q
    · rw [if_pos h1, if_pos ⟨by omega, by omega, h1.2.2⟩, show s - 1 - i = (s - 1 - (i + 1)) + 1 by omega]
      simp [List.getD_eq_getElem?_getD]
    · rw [if_neg h1]
      by_cases h2 : s = i + 1
      · subst h2
        by_cases h3 : (i : Int) < q
        · rw [if_pos h3, if_pos ⟨by omega, by omega, by omega⟩]
          simp [List.getD_eq_getElem?_getD, hs]
        · rw [if_neg h3, if_neg (by omega)]
      · have hc : ¬ (i < s ∧ s ≤ i + (r.length + 1) ∧ (s : Int) ≤ q) := by omega
        rw [if_neg hc]
        split
        · simp [List.getD_eq_getElem?_getD, List.getElem?_set, Ne.symm h2]
        · rfl

theorem outB_get (w : Scen) (r : Res) {i : Int} (h1 : 1 ≤ i) (h2 : i ≤ w.n) (h13 : w.n ≤ 13) : (outB w r)[i.toNat]? = some (disq r.dis i) := by
  unfold outB
  rw [outs_get (by simp; omega) (by simp; omega)]
  congr 1
  unfold disq
  by_cases h : i.toNat ≤ r.dis.length
  · rw [if_pos ⟨by omega, by omega, by omega⟩, show (i - 1).toNat = i.toNat - 1 - 0 by omega]
    simp [h1]
  · rw [if_neg (by omega)]
    have h3 : r.dis.length ≤ (i - 1).toNat := by omega
    rw [List.getD_eq_getElem?_getD (l := r.dis), List.getElem?_eq_none h3, List.getD_eq_getElem?_getD, List.getElem?_replicate]
    split <;> simp

theorem seeRow_get {q j : Int} {a b : Nat} (hj : 0 ≤ j) (hj2 : j < 14) (hb : b < 14) : ∀ {l : List Int} {m : List Bool}, a * 14 + b < m.length →
    (seeRow q m j l)[a * 14 + b]? = some (m.getD (a * 14 + b) false || (decide (j = b) && decide (1 ≤ (a : Int) ∧ (a : Int) ≤ q) && inL l a))
  | [], m, h => by simp [seeRow, inL, List.getD_eq_getElem?_getD, List.getElem?_eq_getElem h]
  | x :: r, m, h => by
    rw [seeRow, seeRow_get hj hj2 hb (l := r) (by split <;> simpa using h)]
    congr 1
    simp only [inL]
    by_cases h1 : 1 ≤ x ∧ x ≤ q
    · rw [if_pos h1]
      by_cases h2 : x = a ∧ j = b
      · obtain ⟨h2, h3⟩ := h2
        have e : x.toNat * 14 + j.toNat = a * 14 + b := by omega
        rw [e, List.getD_eq_getElem?_getD, List.getElem?_set_self h]
        subst h2
        simp [h3, h1]
      · have e : ¬ x.toNat * 14 + j.toNat = a * 14 + b := by omega
        rw [List.getD_eq_getElem?_getD, List.getElem?_set_ne e, List.getD_eq_getElem?_getD]
        by_cases h3 : j = b
        · have h4 : ¬ x = a := fun h => h2 ⟨h, h3⟩
          simp [h4]
        · simp [h3]
    · rw [if_neg h1]
      by_cases h4 : x = a
      · subst h4
        simp [h1]
      · simp [h4]

theorem seeAll_get {q : Int} {det : List (List Int)} {a b : Nat} (hb : b < 14) : ∀ {l : List Int} {m : List Bool}, (∀ j ∈ l, 0 ≤ j ∧ j < 14) → a * 14 + b < m.length →
    (seeAll q det m l)[a * 14 + b]? = some (m.getD (a * 14 + b) false || (decide ((b : Int) ∈ l) && decide (1 ≤ (a : Int) ∧ (a : Int) ≤ q) && tells det a b))
  | [], m, _, h => by simp [seeAll, List.getD_eq_getElem?_getD, List.getElem?_eq_getElem h]
  | j :: r, m, hl, h => by
    obtain ⟨j1, j2⟩ := hl j (by simp)
    rw [seeAll, seeAll_get hb (l := r) (fun x hx => hl x (by simp [hx])) (by split <;> simpa [seeRow_len] using h)]
    congr 1
    by_cases h1 : j ≤ (det.length : Int)
    · rw [if_pos h1, List.getD_eq_getElem?_getD, seeRow_get j1 j2 hb h, Option.getD_some]
      by_cases h2 : j = b
      · have ht : tells det a b = inL (det.getD (j - 1).toNat []) a := by simp only [tells, ← h2, h1, decide_true, Bool.true_and]
        rw [ht]
        simp only [h2, decide_true, Bool.true_and, List.mem_cons, true_or]
        cases m.getD (a * 14 + b) false <;> cases decide (1 ≤ (a : Int) ∧ (a : Int) ≤ q) <;> cases inL (det.getD ((b : Int) - 1).toNat []) a <;> simp
      · have h3 : ((b : Int) ∈ j :: r) = ((b : Int) ∈ r) := by
          simp only [List.mem_cons, eq_iff_iff, or_iff_right_iff_imp]
          exact fun e => absurd e.symm h2
        simp only [h2, h3, decide_false, Bool.false_and, Bool.or_false]
    · rw [if_neg h1]
      by_cases h2 : j = b
      · have ht : tells det a b = false := by simp [tells, ← h2, h1]
        rw [ht]; simp
      · have h3 : ((b : Int) ∈ j :: r) = ((b : Int) ∈ r) := by
          simp only [List.mem_cons, eq_iff_iff, or_iff_right_iff_imp]
          exact fun e => absurd e.symm h2
        simp only [h3]

theorem byB_get (w : Scen) (r : Res) {a b : Nat} (ha : 1 ≤ (a : Int)) (ha2 : (a : Int) ≤ w.n) (h13 : w.n ≤ 13) (hb : b < 14) : (byB w r)[a * 14 + b]? = some (decide ((b : Int) ∈ honL w.bad w.n) && tells r.det a b) := by
  unfold byB
  rw [seeAll_get hb (fun j hj => by have := filt_mem.1 hj; omega) (by rw [List.length_replicate]; omega)]
  have e : (List.replicate 196 false).getD (a * 14 + b) false = false := by
    rw [List.getD_eq_getElem?_getD, List.getElem?_replicate]; split <;> rfl
  rw [e]
  simp only [Bool.false_or, ha, ha2, and_self, decide_true, Bool.and_true]

/-- The places of a row where true stands. -/
def trues : List Bool → Int → List Int
  | [], _ => []
  | b :: r, k => if b then k :: trues r (k + 1) else trues r (k + 1)
theorem trues_snoc {b : Bool} : ∀ {l : List Bool} {k : Int}, trues (l ++ [b]) k = trues l k ++ if b then [k + l.length] else []
  | [], k => by cases b <;> simp [trues]
  | c :: l, k => by
    simp only [List.cons_append, trues, trues_snoc (l := l), List.length_cons]
    have e : k + 1 + (l.length : Int) = k + ((l.length + 1 : Nat) : Int) := by omega
    rw [e]
    cases c <;> simp

def rowB (w : Scen) (r : Res) (a : Nat) : List Bool := ((byB w r).drop (a * 14)).take 14
theorem rowB_len (w : Scen) (r : Res) {a : Nat} (h : a < 14) : (rowB w r a).length = 14 := by simp [rowB, byB_len]; omega
theorem rowB_get (w : Scen) (r : Res) {a b : Nat} (hb : b < 14) : (rowB w r a)[b]? = (byB w r)[a * 14 + b]? := by
  rw [rowB, List.getElem?_take_of_lt hb, List.getElem?_drop]

theorem filt_filter {f g : Int → Bool} : ∀ {m : Nat}, (filtUp f m).filter g = filtUp (fun x => f x && g x) m
  | 0 => rfl
  | m + 1 => by
    simp only [filtUp]
    by_cases hf : f ((m + 1 : Nat) : Int) = true
    · rw [if_pos hf, List.filter_append, filt_filter (m := m)]
      by_cases hg : g ((m + 1 : Nat) : Int) = true
      · rw [if_pos (by rw [hf, hg]; rfl), List.filter_cons_of_pos hg]; rfl
      · rw [if_neg (by rw [hf]; simpa using hg), List.filter_cons_of_neg hg, List.filter_nil, List.append_nil]
    · rw [if_neg hf, if_neg (by rw [Bool.not_eq_true] at hf; rw [hf]; simp)]
      exact filt_filter

theorem filt_beyond {f : Int → Bool} {m : Nat} : ∀ {k : Nat}, (∀ x : Int, (m : Int) < x → f x = false) → filtUp f (m + k) = filtUp f m
  | 0, _ => rfl
  | k + 1, h => by
    rw [← Nat.add_assoc, filtUp, h _ (by omega)]
    simpa using filt_beyond (k := k) h

theorem trues_filt {l : List Bool} (h0 : l[0]? = some false) : ∀ {m : Nat}, m < l.length → trues (l.take (m + 1)) 0 = filtUp (fun x => l.getD x.toNat false) m
  | 0, h => by
    rw [take_snoc h0]; simp [trues, filtUp]
  | m + 1, h => by
    obtain ⟨x, hx⟩ := get_lt h
    have e : l.getD (m + 1) false = x := by rw [List.getD_eq_getElem?_getD, hx]; rfl
    have e2 : (((m + 1 : Nat) : Int)).toNat = m + 1 := rfl
    have e3 : (l.take (m + 1)).length = m + 1 := by rw [List.length_take]; omega
    rw [take_snoc hx, trues_snoc, trues_filt h0 (by omega), filtUp]
    simp only [e2, e, e3, Int.zero_add]
    cases x <;> simp

theorem trues_seen (w : Scen) (r : Res) {a : Nat} (ha : 1 ≤ (a : Int)) (ha2 : (a : Int) ≤ w.n) (h13 : w.n ≤ 13) : trues (rowB w r a) 0 = seenL w.bad w.n r.det a := by
  have hl := rowB_len w r (a := a) (by omega)
  have hg : ∀ b : Nat, b < 14 → (rowB w r a)[b]? = some (decide ((b : Int) ∈ honL w.bad w.n) && tells r.det a b) := fun b hb => by rw [rowB_get w r hb, byB_get w r ha ha2 h13 hb]
  have h0 : (rowB w r a)[0]? = some false := by
    rw [hg 0 (by omega)]
    have : ¬ ((0 : Nat) : Int) ∈ honL w.bad w.n := fun h => by have := (filt_mem.1 h).1; omega
    simp only [this, decide_false, Bool.false_and]
  have h1 := trues_filt h0 (m := 13) (by omega)
  rw [List.take_of_length_le (by omega)] at h1
  rw [h1, seenL, honL, filt_filter]
  have e : 13 = w.n.toNat + (13 - w.n.toNat) := by omega
  rw [filt_congr (g := fun x => decide (x ≤ w.n) && ((!inL w.bad x) && tells r.det a x)), e, filt_beyond, filt_congr]
  · intro x h1 h2
    have : x ≤ w.n := by omega
    simp [this]
  · intro x h1
    have : ¬ x ≤ w.n := by omega
    simp [this]
  · intro x h1 h2
    have hx : ((x.toNat : Nat) : Int) = x := Int.toNat_of_nonneg (by omega)
    have hg' := hg x.toNat (by omega)
    rw [hx] at hg'
    rw [List.getD_eq_getElem?_getD, hg', Option.getD_some]
    by_cases h3 : x ≤ w.n
    · have h4 : decide (x ∈ honL w.bad w.n) = !inL w.bad x := by
        rw [Bool.eq_iff_iff]
        simp only [decide_eq_true_eq]
        unfold honL
        rw [filt_mem]
        constructor
        · exact fun h => h.2.2
        · exact fun h => ⟨h1, by omega, h⟩
      rw [h4]; simp [h3]
    · have h4 : ¬ x ∈ honL w.bad w.n := fun h => by have := (filt_mem.1 h).2.1; omega
      simp [h3, h4]

theorem any_trues : ∀ {l : List Bool} {k : Int}, l.any id = decide (0 < (trues l k).length)
  | [], _ => rfl
  | b :: l, k => by
    rw [List.any_cons, any_trues (l := l) (k := k + 1), trues]
    cases b <;> simp

theorem row_any (w : Scen) (r : Res) {a : Nat} (ha : 1 ≤ (a : Int)) (ha2 : (a : Int) ≤ w.n) (h13 : w.n ≤ 13) : (rowB w r a).any id = decide (0 < (seenL w.bad w.n r.det a).length) := by
  rw [any_trues (k := 0), trues_seen w r ha ha2 h13]

end Go.AM
