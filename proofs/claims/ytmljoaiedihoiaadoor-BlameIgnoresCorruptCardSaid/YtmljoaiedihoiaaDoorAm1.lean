/- The abstract values: what a proof sees in place of Go's memory. Slices that nobody writes are plain lists; rows that the call made are blocks of their own. -/
import Derived.Below
import Derived.OwnWalk
import Derived.Laws.OwnMore
import Derived.Laws.MakeOwn
import Derived.Laws.CopyRow
import Derived.Orders
import Derived.Tactics
namespace Go.AM
set_option linter.unusedVariables false
set_option linter.unusedSimpArgs false
open Go Go.RowKit

/-- A value that never turns: a scalar, or a slice whose elements (each a list of cells) nobody writes any more. -/
inductive PV where
  | v (x : Value)
  | sl (sz : Nat) (es : List (List PV))

/-- A value of a frame. -/
inductive AV where
  | p (x : PV)
  | own (id ver off len : Nat)
  | ptr (id ver i j : Nat)
  | sub (id ver i j len : Nat)
  | iptr (cs : List PV)
  | agg (cs : List AV)
  | tup (cs : List AV)
  | fn (f : Fn) (first captured : List AV)
  | ifc (t : TypeId) (x : AV)
  | junk

/-- A block of the call's own: elements of sz cells each. -/
inductive Blk where
  | row (ver : Nat) (e : TypeId) (sz : Nat) (es : List (List AV))

def Blk.ver : Blk → Nat
  | .row v _ _ _ => v

/-- Package variables whose cells are known and that nobody writes. -/
class Glob where
  tab : List (Nat × List PV)
def gfind : List (Nat × List PV) → Nat → Option (List PV)
  | [], _ => none
  | (b, cs) :: r, g => if g = b then some cs else gfind r g
theorem gfind_mem {g : Nat} {cs : List PV} : ∀ {l : List (Nat × List PV)}, gfind l g = some cs → (g, cs) ∈ l
  | [], h => by simp [gfind] at h
  | (b, c) :: r, h => by
    simp only [gfind] at h
    split at h
    · rename_i e; cases h; simp [e]
    · exact List.mem_cons_of_mem _ (gfind_mem h)

abbrev AHeap := Nat → Option Blk
/-- A heap: the blocks L before those of F. -/
def hp (F : AHeap) : List (Nat × Blk) → AHeap
  | [] => F
  | (id, k) :: r => fun i => if i = id then some k else hp F r i

theorem hp_append (F : AHeap) : ∀ (L L' : List (Nat × Blk)), hp (hp F L') L = hp F (L ++ L')
  | [], _ => rfl
  | (id, k) :: r, L' => by funext i; simp only [hp, List.cons_append]; rw [hp_append F r L']

theorem hp_mem {F : AHeap} : ∀ {L : List (Nat × Blk)} {i : Nat} {k : Blk}, hp F L i = some k → (∃ p ∈ L, p.1 = i ∧ p.2 = k) ∨ (F i = some k ∧ ∀ p ∈ L, p.1 ≠ i)
  | [], _, _, h => .inr ⟨h, by simp⟩
  | (id, x) :: r, i, k, h => by
    simp only [hp] at h
    by_cases e : i = id
    · rw [if_pos e] at h; cases h; exact .inl ⟨(id, x), by simp, e.symm, rfl⟩
    · rw [if_neg e] at h
      rcases hp_mem h with ⟨p, hp, h1, h2⟩ | ⟨h1, h2⟩
      · exact .inl ⟨p, by simp [hp], h1, h2⟩
      · refine .inr ⟨h1, fun p hp => ?_⟩
        cases hp with
        | head => exact fun h => e h.symm
        | tail _ hp => exact h2 p hp

theorem hp_ne {F : AHeap} : ∀ {L : List (Nat × Blk)} {i : Nat}, (∀ p ∈ L, p.1 ≠ i) → hp F L i = F i
  | [], _, _ => rfl
  | (id, x) :: r, i, h => by
    simp only [hp]
    rw [if_neg (fun e => h (id, x) (by simp) e.symm)]
    exact hp_ne fun p hp => h p (by simp [hp])

theorem hp_some {F : AHeap} : ∀ {L : List (Nat × Blk)} {i : Nat}, (F i ≠ none ∨ ∃ p ∈ L, p.1 = i) → hp F L i ≠ none
  | [], i, h => by
    rcases h with h | ⟨p, hp, _⟩
    · exact h
    · cases hp
  | (id, x) :: r, i, h => by
    simp only [hp]
    by_cases e : i = id
    · rw [if_pos e]; simp
    · rw [if_neg e]
      refine hp_some ?_
      rcases h with h | ⟨p, hp, h⟩
      · exact .inl h
      · cases hp with
        | head => exact absurd h.symm e
        | tail _ hp => exact .inr ⟨p, hp, h⟩

structure Gh where
  M : Nat → Nat → Option Value
  loc : Nat → Nat → Option (Value × Nat)
  w0 : World

mutual
def PRel (M : Nat → Nat → Option Value) : PV → Value → Prop
  | .v x, y => y = x
  | .sl sz es, y => ∃ a n c, y = .slice a n c ∧ n = es.length ∧ n ≤ c ∧ (a = none → c = 0) ∧ (es = [] ∨ ∃ b o, a = some ⟨b, o, none⟩ ∧ PEls M b o sz es)
def PEls (M : Nat → Nat → Option Value) (b o sz : Nat) : List (List PV) → Prop
  | [] => True
  | e :: es => e.length = sz ∧ PCells M b o e ∧ PEls M b (o + sz) sz es
def PCells (M : Nat → Nat → Option Value) (b o : Nat) : List PV → Prop
  | [] => True
  | c :: cs => (∃ y, M b o = some y ∧ PRel M c y) ∧ PCells M b (o + 1) cs
end

mutual
def Rel (G : Gh) : AV → Value → Prop
  | .p x, y => PRel G.M x y
  | .own id ver off len, y => ∃ a n c sz a', G.loc id ver = some (.slice a n c, sz) ∧ off + len ≤ n ∧ n ≤ c ∧ y = .slice a' len (c - off) ∧
      (a' = none → c - off = 0) ∧ ((0 < len ∨ off = 0) → a' = a.map fun a => ⟨a.block, off * sz, none⟩)
  | .ptr id ver i j, y => ∃ g n c sz, G.loc id ver = some (.slice (some ⟨g, 0, none⟩) n c, sz) ∧ y = .pointer (some ⟨g, i * sz + j, none⟩)
  | .sub id ver i j len, y => ∃ g n c sz cap, G.loc id ver = some (.slice (some ⟨g, 0, none⟩) n c, sz) ∧ y = .slice (some ⟨g, i * sz + j, none⟩) len cap ∧ len ≤ cap
  | .iptr cs, y => ∃ b o, y = .pointer (some ⟨b, o, none⟩) ∧ PCells G.M b o cs
  | .agg cs, y => ∃ vs, y = .agg vs ∧ RelL G cs vs.toList
  | .tup cs, y => ∃ vs, y = .tuple vs ∧ RelL G cs vs.toList
  | .fn f xs ys, y => ∃ a b, y = .func f a b ∧ RelL G xs a.toList ∧ RelL G ys b.toList
  | .ifc t x, y => ∃ u, y = .iface t u ∧ Rel G x u
  | .junk, _ => True
def RelL (G : Gh) : List AV → List Value → Prop
  | [], [] => True
  | a :: as, v :: vs => Rel G a v ∧ RelL G as vs
  | [], _ :: _ => False
  | _ :: _, [] => False
end

/-- G' knows all that G knew. -/
structure Gh.Le (G G' : Gh) : Prop where
  m : ∀ b o v, G.M b o = some v → G'.M b o = some v
  l : ∀ id ver x, G.loc id ver = some x → G'.loc id ver = some x
  w : G'.w0 = G.w0

theorem Gh.Le.refl (G : Gh) : G.Le G := ⟨fun _ _ _ h => h, fun _ _ _ h => h, rfl⟩
theorem Gh.Le.trans {A B C : Gh} (h : A.Le B) (k : B.Le C) : A.Le C :=
  ⟨fun _ _ _ x => k.m _ _ _ (h.m _ _ _ x), fun _ _ _ x => k.l _ _ _ (h.l _ _ _ x), k.w.trans h.w⟩

mutual
theorem PRel.mono {M M' : Nat → Nat → Option Value} (hm : ∀ b o v, M b o = some v → M' b o = some v) : ∀ {x : PV} {y : Value}, PRel M x y → PRel M' x y
  | .v _, _, h => by simpa [PRel] using h
  | .sl sz es, y, h => by
    simp only [PRel] at h ⊢
    obtain ⟨a, n, c, e1, e2, e3, e4, h⟩ := h
    refine ⟨a, n, c, e1, e2, e3, e4, ?_⟩
    rcases h with h | ⟨b, o, h1, h2⟩
    · exact .inl h
    · exact .inr ⟨b, o, h1, PEls.mono hm h2⟩
theorem PEls.mono {M M' : Nat → Nat → Option Value} (hm : ∀ b o v, M b o = some v → M' b o = some v) : ∀ {es : List (List PV)} {b o sz : Nat}, PEls M b o sz es → PEls M' b o sz es
  | [], _, _, _, _ => by simp [PEls]
  | e :: es, _, _, _, h => by
    simp only [PEls] at h ⊢
    exact ⟨h.1, PCells.mono hm h.2.1, PEls.mono hm h.2.2⟩
theorem PCells.mono {M M' : Nat → Nat → Option Value} (hm : ∀ b o v, M b o = some v → M' b o = some v) : ∀ {cs : List PV} {b o : Nat}, PCells M b o cs → PCells M' b o cs
  | [], _, _, _ => by simp [PCells]
  | c :: cs, _, _, h => by
    simp only [PCells] at h ⊢
    obtain ⟨⟨y, h1, h2⟩, h3⟩ := h
    exact ⟨⟨y, hm _ _ _ h1, PRel.mono hm h2⟩, PCells.mono hm h3⟩
end

mutual
theorem Rel.mono {G G' : Gh} (hg : G.Le G') : ∀ {x : AV} {y : Value}, Rel G x y → Rel G' x y
  | .p x, y, h => by simp only [Rel] at h ⊢; exact PRel.mono hg.m h
  | .own .., y, h => by
    simp only [Rel] at h ⊢
    obtain ⟨a, n, c, sz, a', h1, h2⟩ := h
    exact ⟨a, n, c, sz, a', hg.l _ _ _ h1, h2⟩
  | .ptr .., y, h => by
    simp only [Rel] at h ⊢
    obtain ⟨g, n, c, sz, h1, h2⟩ := h
    exact ⟨g, n, c, sz, hg.l _ _ _ h1, h2⟩
  | .sub .., y, h => by
    simp only [Rel] at h ⊢
    obtain ⟨g, n, c, sz, cap, h1, h2⟩ := h
    exact ⟨g, n, c, sz, cap, hg.l _ _ _ h1, h2⟩
  | .iptr cs, y, h => by
    simp only [Rel] at h ⊢
    obtain ⟨b, o, h1, h2⟩ := h
    exact ⟨b, o, h1, PCells.mono hg.m h2⟩
  | .agg cs, y, h => by
    simp only [Rel] at h ⊢
    obtain ⟨vs, h1, h2⟩ := h
    exact ⟨vs, h1, RelL.mono hg h2⟩
  | .tup cs, y, h => by
    simp only [Rel] at h ⊢
    obtain ⟨vs, h1, h2⟩ := h
    exact ⟨vs, h1, RelL.mono hg h2⟩
  | .fn f xs ys, y, h => by
    simp only [Rel] at h ⊢
    obtain ⟨a, b, h1, h2, h3⟩ := h
    exact ⟨a, b, h1, RelL.mono hg h2, RelL.mono hg h3⟩
  | .ifc t x, y, h => by
    simp only [Rel] at h ⊢
    obtain ⟨u, h1, h2⟩ := h
    exact ⟨u, h1, Rel.mono hg h2⟩
  | .junk, _, _ => by simp [Rel]
theorem RelL.mono {G G' : Gh} (hg : G.Le G') : ∀ {xs : List AV} {ys : List Value}, RelL G xs ys → RelL G' xs ys
  | [], [], _ => by simp [RelL]
  | x :: xs, y :: ys, h => by
    simp only [RelL] at h ⊢
    exact ⟨Rel.mono hg h.1, RelL.mono hg h.2⟩
  | [], _ :: _, h => by simp [RelL] at h
  | _ :: _, [], h => by simp [RelL] at h
end

/-- It fills one cell. -/
def AV.one : AV → Bool
  | .p (.v x) => x.oneCell'
  | .agg _ | .tup _ | .junk => false
  | _ => true

theorem AV.one_rel {G : Gh} {x : AV} {y : Value} (h : x.one = true) (r : Rel G x y) : y.oneCell' = true := by
  cases x with
  | p x =>
    cases x with
    | v x => simp only [Rel, PRel] at r; subst r; exact h
    | sl sz es => simp only [Rel, PRel] at r; obtain ⟨a, n, c, rfl, _⟩ := r; rfl
  | own => simp only [Rel] at r; obtain ⟨_, _, _, _, _, _, _, _, rfl, _⟩ := r; rfl
  | ptr => simp only [Rel] at r; obtain ⟨_, _, _, _, _, rfl⟩ := r; rfl
  | sub => simp only [Rel] at r; obtain ⟨_, _, _, _, _, _, rfl, _⟩ := r; rfl
  | iptr => simp only [Rel] at r; obtain ⟨_, _, rfl, _⟩ := r; rfl
  | agg => simp [AV.one] at h
  | tup => simp [AV.one] at h
  | fn => simp only [Rel] at r; obtain ⟨_, _, rfl, _⟩ := r; rfl
  | ifc => simp only [Rel] at r; obtain ⟨_, rfl, _⟩ := r; rfl
  | junk => simp [AV.one] at h

theorem RelL.length {G : Gh} : ∀ {xs : List AV} {ys : List Value}, RelL G xs ys → xs.length = ys.length
  | [], [], _ => rfl
  | _ :: _, _ :: _, h => by simp only [RelL] at h; simp [RelL.length h.2]
  | [], _ :: _, h => by simp [RelL] at h
  | _ :: _, [], h => by simp [RelL] at h

theorem RelL.get {G : Gh} : ∀ {xs : List AV} {ys : List Value} (i : Nat) (x : AV), RelL G xs ys → xs[i]? = some x → ∃ y, ys[i]? = some y ∧ Rel G x y
  | [], [], _, _, _, h => by simp at h
  | a :: as, b :: bs, 0, x, h, hx => by simp at hx; subst hx; simp only [RelL] at h; exact ⟨b, rfl, h.1⟩
  | a :: as, b :: bs, i + 1, x, h, hx => by simp only [RelL] at h; exact RelL.get i x h.2 (by simpa using hx)
  | [], _ :: _, _, _, h, _ => by simp [RelL] at h
  | _ :: _, [], _, _, h, _ => by simp [RelL] at h

theorem RelL.of {G : Gh} : ∀ {xs : List AV} {ys : List Value}, xs.length = ys.length → (∀ (i : Nat) (x : AV) (y : Value), xs[i]? = some x → ys[i]? = some y → Rel G x y) → RelL G xs ys
  | [], [], _, _ => by simp [RelL]
  | a :: as, b :: bs, hl, h => by
    simp only [RelL]
    exact ⟨h 0 a b rfl rfl, RelL.of (by simpa using hl) fun i x y hx hy => h (i + 1) x y (by simpa using hx) (by simpa using hy)⟩
  | [], _ :: _, hl, _ => by simp at hl
  | _ :: _, [], hl, _ => by simp at hl

theorem RelL.append {G : Gh} : ∀ {xs xs' : List AV} {ys ys' : List Value}, RelL G xs ys → RelL G xs' ys' → RelL G (xs ++ xs') (ys ++ ys')
  | [], _, [], _, _, h => by simpa using h
  | a :: as, _, b :: bs, _, h, h' => by simp only [RelL, List.cons_append] at h ⊢; exact ⟨h.1, RelL.append h.2 h'⟩
  | [], _, _ :: _, _, h, _ => by simp [RelL] at h
  | _ :: _, _, [], _, h, _ => by simp [RelL] at h

theorem RelL.take {G : Gh} : ∀ {xs : List AV} {ys : List Value} (n : Nat), RelL G xs ys → RelL G (xs.take n) (ys.take n)
  | [], [], _, _ => by simp [RelL]
  | a :: as, b :: bs, 0, _ => by simp [RelL]
  | a :: as, b :: bs, n + 1, h => by simp only [RelL, List.take_succ_cons] at h ⊢; exact ⟨h.1, RelL.take n h.2⟩
  | [], _ :: _, _, h => by simp [RelL] at h
  | _ :: _, [], _, h => by simp [RelL] at h

theorem RelL.drop {G : Gh} : ∀ {xs : List AV} {ys : List Value} (n : Nat), RelL G xs ys → RelL G (xs.drop n) (ys.drop n)
  | [], [], _, _ => by simp [RelL]
  | a :: as, b :: bs, 0, h => by simpa using h
  | a :: as, b :: bs, n + 1, h => by simp only [RelL, List.drop_succ_cons] at h ⊢; exact RelL.drop n h.2
  | [], _ :: _, _, h => by simp [RelL] at h
  | _ :: _, [], _, h => by simp [RelL] at h

theorem RelL.set {G : Gh} : ∀ {xs : List AV} {ys : List Value} (n : Nat) {x : AV} {y : Value}, RelL G xs ys → Rel G x y → RelL G (xs.set n x) (ys.set n y)
  | [], [], _, _, _, _, _ => by simp [RelL]
  | a :: as, b :: bs, 0, _, _, h, k => by simp only [RelL, List.set_cons_zero] at h ⊢; exact ⟨k, h.2⟩
  | a :: as, b :: bs, n + 1, _, _, h, k => by simp only [RelL, List.set_cons_succ] at h ⊢; exact ⟨h.1, RelL.set n h.2 k⟩
  | [], _ :: _, _, _, _, h, _ => by simp [RelL] at h
  | _ :: _, [], _, _, _, h, _ => by simp [RelL] at h

theorem PEls.get {M : Nat → Nat → Option Value} : ∀ {es : List (List PV)} {b o sz : Nat} (i : Nat) (e : List PV), PEls M b o sz es → es[i]? = some e → e.length = sz ∧ PCells M b (o + i * sz) e
  | [], _, _, _, _, _, _, h => by simp at h
  | a :: as, b, o, sz, 0, e, h, he => by simp at he; subst he; simp only [PEls] at h; exact ⟨h.1, by simpa using h.2.1⟩
  | a :: as, b, o, sz, i + 1, e, h, he => by
    simp only [PEls] at h
    have := PEls.get i e h.2.2 (by simpa using he)
    exact ⟨this.1, by rw [Nat.succ_mul, show o + (i * sz + sz) = o + sz + i * sz by omega]; exact this.2⟩

theorem PCells.get {M : Nat → Nat → Option Value} : ∀ {cs : List PV} {b o : Nat} (i : Nat) (c : PV), PCells M b o cs → cs[i]? = some c → ∃ y, M b (o + i) = some y ∧ PRel M c y
  | [], _, _, _, _, _, h => by simp at h
  | a :: as, b, o, 0, c, h, he => by simp at he; subst he; simp only [PCells] at h; simpa using h.1
  | a :: as, b, o, i + 1, c, h, he => by
    simp only [PCells] at h
    have := PCells.get i c h.2 (by simpa using he)
    rw [show o + (i + 1) = o + 1 + i by omega]; exact this

theorem PCells.drop {M : Nat → Nat → Option Value} : ∀ {cs : List PV} {b o : Nat} (i : Nat), PCells M b o cs → PCells M b (o + i) (cs.drop i)
  | [], _, _, _, _ => by simp [PCells]
  | a :: as, b, o, 0, h => by simpa using h
  | a :: as, b, o, i + 1, h => by
    simp only [PCells, List.drop_succ_cons] at h ⊢
    rw [show o + (i + 1) = o + 1 + i by omega]; exact PCells.drop i h.2

theorem PEls.drop {M : Nat → Nat → Option Value} : ∀ {es : List (List PV)} {b o sz : Nat} (i : Nat), PEls M b o sz es → PEls M b (o + i * sz) sz (es.drop i)
  | [], _, _, _, _, _ => by simp [PEls]
  | a :: as, b, o, sz, 0, h => by simpa using h
  | a :: as, b, o, sz, i + 1, h => by
    simp only [PEls, List.drop_succ_cons] at h ⊢
    rw [Nat.succ_mul, show o + (i * sz + sz) = o + sz + i * sz by omega]; exact PEls.drop i h.2.2

theorem PEls.take {M : Nat → Nat → Option Value} : ∀ {es : List (List PV)} {b o sz : Nat} (i : Nat), PEls M b o sz es → PEls M b o sz (es.take i)
  | [], _, _, _, _, _ => by simp [PEls]
  | a :: as, b, o, sz, 0, h => by simp [PEls]
  | a :: as, b, o, sz, i + 1, h => by
    simp only [PEls, List.take_succ_cons] at h ⊢
    exact ⟨h.1, h.2.1, PEls.take i h.2.2⟩

end Go.AM
