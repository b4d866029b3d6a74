/- Package variables that hold plain data: their cells. -/
import Derived.Test.YtmljoaiedihoiaaDoorAm29
import Derived.LaidMore
import Derived.MakeChecks
namespace Go.AM
set_option linter.unusedVariables false
set_option linter.unusedSimpArgs false
open Go Go.RowKit Go.ChangeShapes Go.WideShapes Go.Deep
set_option linter.unusedSectionVars false
variable [Glob]

mutual
def dlit {H : Type} : DataW H → Option (List Value)
  | .lit (.int k n) => some [.int k n]
  | .lit (.bool b) => some [.bool b]
  | .lit (.string s) => some [.string ⟨s.toArray⟩]
  | .agg ds => dlits ds
  | _ => none
def dlits {H : Type} : List (DataW H) → Option (List Value)
  | [] => some []
  | d :: ds => match dlit d, dlits ds with
    | some a, some b => some (a ++ b)
    | _, _ => none
end

section
variable {H : Type} {enc : TypeId × Value → H} {P : Program} {w : World} {base : Nat} {spare : Nat → Bool} {held : Bool}

theorem trod_parts2 {t : TypeId} {fuel : Nat} {cs : List Value} {x : DataW H × List MemPlace} {l : List (Nat × TypeId)} (hp : partsOf P t = some l) (h : DataW.trod enc P w base spare held fuel t cs = some x) :
    cs.length = P.cellsOf t ∧ ∃ m ds, x.1 = .agg ds ∧ ds.length = l.length ∧ ∀ (i : Nat) (p : Nat × TypeId), l[i]? = some p → ∃ y, DataW.trod enc P w base spare held m p.2 ((cs.drop p.1).take (P.cellsOf p.2)) = some y ∧ ds[i]? = some y.1 := by
  unfold partsOf at hp
  split at hp
  · rename_i fs hu
    cases hp
    obtain ⟨xs, n, _, e0, h1, h2, h3⟩ := DataW.trod_struct hu h
    refine ⟨h1, n, xs.map (·.1), by rw [e0], by simp [h2], fun i p hi => ?_⟩
    simp only [List.getElem?_map, Array.getElem?_toList, Option.map_eq_some_iff] at hi
    obtain ⟨f, hf, rfl⟩ := hi
    have hlt : i < xs.length := by rw [h2]; exact (Array.getElem?_eq_some_iff.1 hf).1
    exact ⟨xs[i], by rw [h3 i f hf]; exact List.getElem?_eq_getElem hlt, by rw [List.getElem?_map, List.getElem?_eq_getElem hlt]; rfl⟩
  · rename_i n e hu
    cases hp
    obtain ⟨xs, m, _, e0, h1, h2, h3⟩ := DataW.trod_array hu h
    refine ⟨h1, m, xs.map (·.1), by rw [e0], by simp [h2], fun i p hi => ?_⟩
    simp only [List.getElem?_map, Option.map_eq_some_iff] at hi
    obtain ⟨j, hj, rfl⟩ := hi
    obtain ⟨hlt, e1⟩ := List.getElem?_eq_some_iff.1 hj
    simp at hlt e1
    subst e1
    have hlx : i < xs.length := by omega
    exact ⟨xs[i], by rw [h3 i hlt]; exact List.getElem?_eq_getElem hlx, by rw [List.getElem?_map, List.getElem?_eq_getElem hlx]; rfl⟩
  · cases hp

mutual
theorem trod_lit : ∀ (sh : Sh) (t : TypeId) (fuel : Nat) (cs : List Value) (x : DataW H × List MemPlace) (vs : List Value), shOk P sh t = true → DataW.trod enc P w base spare held fuel t cs = some x → dlit x.1 = some vs →
    cs = vs ∧ ∀ v ∈ vs, v.oneCell' = true
  | .int k, t, fuel, cs, x, vs, hs, h, hd => by
    simp only [shOk] at hs
    split at hs
    · rename_i k' hu
      obtain ⟨n, rfl, rfl, _⟩ := DataW.trod_int hu h
      simp only [dlit] at hd
      cases hd
      simp [Value.oneCell']
    · cases hs
  | .bool, t, fuel, cs, x, vs, hs, h, hd => by
    simp only [shOk] at hs
    split at hs
    · rename_i hu
      obtain ⟨b, rfl, rfl⟩ := DataW.trod_bool hu h
      simp only [dlit] at hd
      cases hd
      simp [Value.oneCell']
    · cases hs
  | .str, t, fuel, cs, x, vs, hs, h, hd => by
    simp only [shOk] at hs
    split at hs
    · rename_i hu
      obtain ⟨s, rfl, rfl, _⟩ := DataW.trod_string hu h
      simp only [dlit] at hd
      cases hd
      simp [Value.oneCell']
    · cases hs
  | .sl n e, t, fuel, cs, x, vs, hs, h, hd => by
    simp only [shOk] at hs
    split at hs
    · rename_i et hu
      rcases open_slice hu h with ⟨_, rfl⟩ | ⟨a, len, cap, m, k, D, Pl, _, _, _, _, _, rfl, _⟩ <;> simp [dlit] at hd
    · cases hs
  | .agg fs, t, fuel, cs, x, vs, hs, h, hd => by
    simp only [shOk, Bool.and_eq_true, beq_iff_eq] at hs
    obtain ⟨h1, hs⟩ := hs
    split at hs
    · rename_i l hl
      obtain ⟨h2, m, ds, e1, e2, h3⟩ := trod_parts2 hl h
      rw [e1] at hd
      simp only [dlit] at hd
      have := trod_lits fs 0 l m cs ds vs hs (by rw [h2, h1]; omega) e2 h3 hd
      simpa using this
    · cases hs
theorem trod_lits : ∀ (fs : List Sh) (o : Nat) (l : List (Nat × TypeId)) (m : Nat) (cs : List Value) (ds : List (DataW H)) (vs : List Value), shOks P fs o l = true → cs.length = o + Sh.sizes fs → ds.length = l.length →
    (∀ (i : Nat) (p : Nat × TypeId), l[i]? = some p → ∃ y, DataW.trod enc P w base spare held m p.2 ((cs.drop p.1).take (P.cellsOf p.2)) = some y ∧ ds[i]? = some y.1) → dlits ds = some vs → cs.drop o = vs ∧ ∀ v ∈ vs, v.oneCell' = true
  | [], o, [], m, cs, ds, vs, _, hl, hdl, _, hd => by
    have : ds = [] := List.eq_nil_of_length_eq_zero (by simpa using hdl)
    subst this
    simp only [dlits] at hd
    cases hd
    exact ⟨List.drop_eq_nil_of_le (by simp [Sh.sizes] at hl; omega), by simp⟩
  | f :: fs, o, (o', t) :: r, m, cs, ds, vs, hs, hl, hdl, h, hd => by
    simp only [shOks, Bool.and_eq_true, beq_iff_eq] at hs
    obtain ⟨⟨⟨rfl, h1⟩, h2⟩, h3⟩ := hs
    cases ds with
    | nil => simp at hdl
    | cons d ds =>
      obtain ⟨y, hy, hdy⟩ := h 0 (o', t) rfl
      simp only at hy
      simp at hdy
      subst hdy
      simp only [dlits] at hd
      split at hd
      · rename_i a b ha hb
        cases hd
        obtain ⟨p1, p2⟩ := trod_lit f t m _ y a h2 hy ha
        simp only [Sh.sizes] at hl
        obtain ⟨q1, q2⟩ := trod_lits fs (o' + f.size) r m cs ds b h3 (by omega) (by simpa using hdl) (fun i p hp => by
          obtain ⟨y, y1, y2⟩ := h (i + 1) p (by simpa using hp)
          exact ⟨y, y1, by simpa using y2⟩) hb
        refine ⟨?_, fun v hv => by rcases List.mem_append.1 hv with hv | hv; exact p2 v hv; exact q2 v hv⟩
        have e : cs.drop o' = (cs.drop o').take (P.cellsOf t) ++ cs.drop (o' + f.size) := by
          rw [h1, ← List.drop_drop, List.take_append_drop]
        rw [e, p1, q1]
      · cases hd
  | [], _, _ :: _, _, _, _, _, hs, _, _, _, _ => by simp [shOks] at hs
  | _ :: _, _, [], _, _, _, _, hs, _, _, _, _ => by simp [shOks] at hs
end
end

/-- A listed variable's cells, of its name, its number, its type, its shape. -/
theorem lit_pcells {P : Program} {W : World} {n : String} {d : DataW Unit} {g : Nat} {t : TypeId} {sh : Sh} {vs : List Value} {fuel : Nat} {cs : Array Value} {p : List MemPlace} (hg : P.globalNamed n = some g) (hs : shOk P sh t = true) (hv : W.var? P n = some cs)
    (h : DataW.trod (fun _ => ()) P W 0 (fun _ => true) false fuel t cs.toList = some (d, p)) (hd : dlit d = some vs) : PCells (mem W) g 0 (vs.map PV.v) := by
  obtain ⟨e, h1⟩ := trod_lit sh t fuel _ _ vs hs h hd
  have key : ∀ (l : List Value) (o : Nat), (∀ v ∈ l, v.oneCell' = true) → (∀ i, i < l.length → W.cell? ⟨g, o + i, none⟩ = l[i]?) → PCells (mem W) g o (l.map PV.v) := by
    intro l
    induction l with
    | nil => intro o _ _; simp [PCells]
    | cons v l ih =>
      intro o h1 h2
      simp only [List.map_cons, PCells]
      refine ⟨⟨v, mem_of (by have := h2 0 (by simp); simpa using this) (h1 v (by simp)), by simp [PRel]⟩, ih (o + 1) (fun x hx => h1 x (by simp [hx])) fun i hi => ?_⟩
      have := h2 (i + 1) (by simp; omega)
      rw [show o + 1 + i = o + (i + 1) by omega]
      simpa using this
  refine key vs 0 h1 fun i _ => ?_
  rw [World.var?_cell hg hv, Nat.zero_add, ← e]
  simp

end Go.AM
