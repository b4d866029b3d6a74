/- The logic of abstract heaps for Go programs, merged out of several texts. -/
import Derived.Below
import Derived.OwnWalk
import Derived.Laws.OwnMore
import Derived.Laws.MakeOwn
import Derived.Laws.CopyRow
import Derived.Orders
import Derived.Tactics
import Derived.Deep.LoopGhost
import Derived.Laws.StructEq
/- The abstract values: what a proof sees in place of Go's memory. Slices that nobody writes are plain lists; rows that the call made are blocks of their own. -/
namespace Go.AM
set_option linter.unusedVariables false
set_option linter.unusedSimpArgs false
open Go Go.RowKit

/-- A value that never turns: a scalar, or a slice whose elements (each a list of cells) nobody writes any more. -/
inductive PV where
  | v (x : Value)
  | sl (sz : Nat) (es : List (List PV))

/-- A value of a frame. -/
inductive AV where
  | p (x : PV)
  | own (id ver off len : Nat)
  | ptr (id ver i j : Nat)
  | sub (id ver i j len : Nat)
  | iptr (cs : List PV)
  | agg (cs : List AV)
  | tup (cs : List AV)
  | fn (f : Fn) (first captured : List AV)
  | ifc (t : TypeId) (x : AV)
  | mref (id ver : Nat)
  | cap0
  | junk

/-- A block of the call's own: elements of sz cells each. -/
inductive Blk where
  | row (ver : Nat) (e : TypeId) (sz : Nat) (es : List (List AV))
  | mp (ver : Nat) (es : List (Value × AV))

def Blk.ver : Blk → Nat
  | .row v _ _ _ => v
  | .mp v _ => v

/-- Package variables whose cells are known and that nobody writes. -/
class Glob where
  tab : List (Nat × List PV)
def gfind : List (Nat × List PV) → Nat → Option (List PV)
  | [], _ => none
  | (b, cs) :: r, g => if g = b then some cs else gfind r g
theorem gfind_mem {g : Nat} {cs : List PV} : ∀ {l : List (Nat × List PV)}, gfind l g = some cs → (g, cs) ∈ l
  | [], h => by simp [gfind] at h
  | (b, c) :: r, h => by
    simp only [gfind] at h
    split at h
    · rename_i e; cases h; simp [e]
    · exact List.mem_cons_of_mem _ (gfind_mem h)

abbrev AHeap := Nat → Option Blk
/-- A heap: the blocks L before those of F. -/
def hp (F : AHeap) : List (Nat × Blk) → AHeap
  | [] => F
  | (id, k) :: r => fun i => if i = id then some k else hp F r i

theorem hp_append (F : AHeap) : ∀ (L L' : List (Nat × Blk)), hp (hp F L') L = hp F (L ++ L')
  | [], _ => rfl
  | (id, k) :: r, L' => by funext i; simp only [hp, List.cons_append]; rw [hp_append F r L']

theorem hp_mem {F : AHeap} : ∀ {L : List (Nat × Blk)} {i : Nat} {k : Blk}, hp F L i = some k → (∃ p ∈ L, p.1 = i ∧ p.2 = k) ∨ (F i = some k ∧ ∀ p ∈ L, p.1 ≠ i)
  | [], _, _, h => .inr ⟨h, by simp⟩
  | (id, x) :: r, i, k, h => by
    simp only [hp] at h
    by_cases e : i = id
    · rw [if_pos e] at h; cases h; exact .inl ⟨(id, x), by simp, e.symm, rfl⟩
    · rw [if_neg e] at h
      rcases hp_mem h with ⟨p, hp, h1, h2⟩ | ⟨h1, h2⟩
      · exact .inl ⟨p, by simp [hp], h1, h2⟩
      · refine .inr ⟨h1, fun p hp => ?_⟩
        cases hp with
        | head => exact fun h => e h.symm
        | tail _ hp => exact h2 p hp

theorem hp_ne {F : AHeap} : ∀ {L : List (Nat × Blk)} {i : Nat}, (∀ p ∈ L, p.1 ≠ i) → hp F L i = F i
  | [], _, _ => rfl
  | (id, x) :: r, i, h => by
    simp only [hp]
    rw [if_neg (fun e => h (id, x) (by simp) e.symm)]
    exact hp_ne fun p hp => h p (by simp [hp])

theorem hp_some {F : AHeap} : ∀ {L : List (Nat × Blk)} {i : Nat}, (F i ≠ none ∨ ∃ p ∈ L, p.1 = i) → hp F L i ≠ none
  | [], i, h => by
    rcases h with h | ⟨p, hp, _⟩
    · exact h
    · cases hp
  | (id, x) :: r, i, h => by
    simp only [hp]
    by_cases e : i = id
    · rw [if_pos e]; simp
    · rw [if_neg e]
      refine hp_some ?_
      rcases h with h | ⟨p, hp, h⟩
      · exact .inl h
      · cases hp with
        | head => exact absurd h.symm e
        | tail _ hp => exact .inr ⟨p, hp, h⟩

structure Gh where
  M : Nat → Nat → Option Value
  loc : Nat → Nat → Option (Value × Nat)
  w0 : World
  mks : List Nat
  out : List (Nat × Obj)

mutual
def PRel (M : Nat → Nat → Option Value) : PV → Value → Prop
  | .v x, y => y = x
  | .sl sz es, y => ∃ a n c, y = .slice a n c ∧ n = es.length ∧ n ≤ c ∧ (a = none → c = 0) ∧ (es = [] ∨ ∃ b o, a = some ⟨b, o, none⟩ ∧ PEls M b o sz es)
def PEls (M : Nat → Nat → Option Value) (b o sz : Nat) : List (List PV) → Prop
  | [] => True
  | e :: es => e.length = sz ∧ PCells M b o e ∧ PEls M b (o + sz) sz es
def PCells (M : Nat → Nat → Option Value) (b o : Nat) : List PV → Prop
  | [] => True
  | c :: cs => (∃ y, M b o = some y ∧ PRel M c y) ∧ PCells M b (o + 1) cs
end

mutual
def Rel (G : Gh) : AV → Value → Prop
  | .p x, y => PRel G.M x y
  | .own id ver off len, y => ∃ a n c sz a', G.loc id ver = some (.slice a n c, sz) ∧ off + len ≤ n ∧ n ≤ c ∧ y = .slice a' len (c - off) ∧
      (a' = none → c - off = 0) ∧ ((0 < len ∨ off = 0) → a' = a.map fun a => ⟨a.block, off * sz, none⟩)
  | .ptr id ver i j, y => ∃ g n c sz, G.loc id ver = some (.slice (some ⟨g, 0, none⟩) n c, sz) ∧ y = .pointer (some ⟨g, i * sz + j, none⟩)
  | .sub id ver i j len, y => ∃ g n c sz cap, G.loc id ver = some (.slice (some ⟨g, 0, none⟩) n c, sz) ∧ y = .slice (some ⟨g, i * sz + j, none⟩) len cap ∧ len ≤ cap
  | .iptr cs, y => ∃ b o, y = .pointer (some ⟨b, o, none⟩) ∧ PCells G.M b o cs
  | .agg cs, y => ∃ vs, y = .agg vs ∧ RelL G cs vs.toList
  | .tup cs, y => ∃ vs, y = .tuple vs ∧ RelL G cs vs.toList
  | .fn f xs ys, y => ∃ a b, y = .func f a b ∧ RelL G xs a.toList ∧ RelL G ys b.toList
  | .ifc t x, y => ∃ u, y = .iface t u ∧ Rel G x u
  | .mref id ver, y => ∃ b, G.loc id ver = some (.map (some b), 0) ∧ y = .map (some b)
  | .cap0, y => ∃ a, y = .slice a 0 0
  | .junk, _ => True
def RelL (G : Gh) : List AV → List Value → Prop
  | [], [] => True
  | a :: as, v :: vs => Rel G a v ∧ RelL G as vs
  | [], _ :: _ => False
  | _ :: _, [] => False
end

/-- G' knows all that G knew. -/
structure Gh.Le (G G' : Gh) : Prop where
  m : ∀ b o v, G.M b o = some v → G'.M b o = some v
  l : ∀ id ver x, G.loc id ver = some x → G'.loc id ver = some x
  w : G'.w0 = G.w0
  k : ∀ b ∈ G.mks, b ∈ G'.mks
  o : G'.out = G.out

theorem Gh.Le.refl (G : Gh) : G.Le G := ⟨fun _ _ _ h => h, fun _ _ _ h => h, rfl, fun _ h => h, rfl⟩
theorem Gh.Le.trans {A B C : Gh} (h : A.Le B) (k : B.Le C) : A.Le C :=
  ⟨fun _ _ _ x => k.m _ _ _ (h.m _ _ _ x), fun _ _ _ x => k.l _ _ _ (h.l _ _ _ x), k.w.trans h.w, fun _ x => k.k _ (h.k _ x), k.o.trans h.o⟩

mutual
theorem PRel.mono {M M' : Nat → Nat → Option Value} (hm : ∀ b o v, M b o = some v → M' b o = some v) : ∀ {x : PV} {y : Value}, PRel M x y → PRel M' x y
  | .v _, _, h => by simpa [PRel] using h
  | .sl sz es, y, h => by
    simp only [PRel] at h ⊢
    obtain ⟨a, n, c, e1, e2, e3, e4, h⟩ := h
    refine ⟨a, n, c, e1, e2, e3, e4, ?_⟩
    rcases h with h | ⟨b, o, h1, h2⟩
    · exact .inl h
    · exact .inr ⟨b, o, h1, PEls.mono hm h2⟩
theorem PEls.mono {M M' : Nat → Nat → Option Value} (hm : ∀ b o v, M b o = some v → M' b o = some v) : ∀ {es : List (List PV)} {b o sz : Nat}, PEls M b o sz es → PEls M' b o sz es
  | [], _, _, _, _ => by simp [PEls]
  | e :: es, _, _, _, h => by
    simp only [PEls] at h ⊢
    exact ⟨h.1, PCells.mono hm h.2.1, PEls.mono hm h.2.2⟩
theorem PCells.mono {M M' : Nat → Nat → Option Value} (hm : ∀ b o v, M b o = some v → M' b o = some v) : ∀ {cs : List PV} {b o : Nat}, PCells M b o cs → PCells M' b o cs
  | [], _, _, _ => by simp [PCells]
  | c :: cs, _, _, h => by
    simp only [PCells] at h ⊢
    obtain ⟨⟨y, h1, h2⟩, h3⟩ := h
    exact ⟨⟨y, hm _ _ _ h1, PRel.mono hm h2⟩, PCells.mono hm h3⟩
end

mutual
theorem Rel.mono {G G' : Gh} (hg : G.Le G') : ∀ {x : AV} {y : Value}, Rel G x y → Rel G' x y
  | .p x, y, h => by simp only [Rel] at h ⊢; exact PRel.mono hg.m h
  | .own .., y, h => by
    simp only [Rel] at h ⊢
    obtain ⟨a, n, c, sz, a', h1, h2⟩ := h
    exact ⟨a, n, c, sz, a', hg.l _ _ _ h1, h2⟩
  | .ptr .., y, h => by
    simp only [Rel] at h ⊢
    obtain ⟨g, n, c, sz, h1, h2⟩ := h
    exact ⟨g, n, c, sz, hg.l _ _ _ h1, h2⟩
  | .sub .., y, h => by
    simp only [Rel] at h ⊢
    obtain ⟨g, n, c, sz, cap, h1, h2⟩ := h
    exact ⟨g, n, c, sz, cap, hg.l _ _ _ h1, h2⟩
  | .iptr cs, y, h => by
    simp only [Rel] at h ⊢
    obtain ⟨b, o, h1, h2⟩ := h
    exact ⟨b, o, h1, PCells.mono hg.m h2⟩
  | .agg cs, y, h => by
    simp only [Rel] at h ⊢
    obtain ⟨vs, h1, h2⟩ := h
    exact ⟨vs, h1, RelL.mono hg h2⟩
  | .tup cs, y, h => by
    simp only [Rel] at h ⊢
    obtain ⟨vs, h1, h2⟩ := h
    exact ⟨vs, h1, RelL.mono hg h2⟩
  | .fn f xs ys, y, h => by
    simp only [Rel] at h ⊢
    obtain ⟨a, b, h1, h2, h3⟩ := h
    exact ⟨a, b, h1, RelL.mono hg h2, RelL.mono hg h3⟩
  | .ifc t x, y, h => by
    simp only [Rel] at h ⊢
    obtain ⟨u, h1, h2⟩ := h
    exact ⟨u, h1, Rel.mono hg h2⟩
  | .mref .., y, h => by
    simp only [Rel] at h ⊢
    obtain ⟨b, h1, h2⟩ := h
    exact ⟨b, hg.l _ _ _ h1, h2⟩
  | .cap0, y, h => by simpa only [Rel] using h
  | .junk, _, _ => by simp [Rel]
theorem RelL.mono {G G' : Gh} (hg : G.Le G') : ∀ {xs : List AV} {ys : List Value}, RelL G xs ys → RelL G' xs ys
  | [], [], _ => by simp [RelL]
  | x :: xs, y :: ys, h => by
    simp only [RelL] at h ⊢
    exact ⟨Rel.mono hg h.1, RelL.mono hg h.2⟩
  | [], _ :: _, h => by simp [RelL] at h
  | _ :: _, [], h => by simp [RelL] at h
end

mutual
theorem Rel.same {G G' : Gh} (hm : G'.M = G.M) (hl : G'.loc = G.loc) : ∀ {x : AV} {y : Value}, Rel G x y → Rel G' x y
  | .p x, y, h => by simp only [Rel] at h ⊢; rw [hm]; exact h
  | .own .., y, h => by simp only [Rel] at h ⊢; rw [hl]; exact h
  | .ptr .., y, h => by simp only [Rel] at h ⊢; rw [hl]; exact h
  | .sub .., y, h => by simp only [Rel] at h ⊢; rw [hl]; exact h
  | .iptr cs, y, h => by simp only [Rel] at h ⊢; rw [hm]; exact h
  | .agg cs, y, h => by
    simp only [Rel] at h ⊢
    obtain ⟨vs, h1, h2⟩ := h
    exact ⟨vs, h1, RelL.same hm hl h2⟩
  | .tup cs, y, h => by
    simp only [Rel] at h ⊢
    obtain ⟨vs, h1, h2⟩ := h
    exact ⟨vs, h1, RelL.same hm hl h2⟩
  | .fn f xs ys, y, h => by
    simp only [Rel] at h ⊢
    obtain ⟨a, b, h1, h2, h3⟩ := h
    exact ⟨a, b, h1, RelL.same hm hl h2, RelL.same hm hl h3⟩
  | .ifc t x, y, h => by
    simp only [Rel] at h ⊢
    obtain ⟨u, h1, h2⟩ := h
    exact ⟨u, h1, Rel.same hm hl h2⟩
  | .mref .., y, h => by simp only [Rel] at h ⊢; rw [hl]; exact h
  | .cap0, y, h => by simpa only [Rel] using h
  | .junk, _, _ => by simp [Rel]
theorem RelL.same {G G' : Gh} (hm : G'.M = G.M) (hl : G'.loc = G.loc) : ∀ {xs : List AV} {ys : List Value}, RelL G xs ys → RelL G' xs ys
  | [], [], _ => by simp [RelL]
  | x :: xs, y :: ys, h => by
    simp only [RelL] at h ⊢
    exact ⟨Rel.same hm hl h.1, RelL.same hm hl h.2⟩
  | [], _ :: _, h => by simp [RelL] at h
  | _ :: _, [], h => by simp [RelL] at h
end

/-- It fills one cell. -/
def AV.one : AV → Bool
  | .p (.v x) => x.oneCell'
  | .agg _ | .tup _ | .junk => false
  | _ => true

theorem AV.one_rel {G : Gh} {x : AV} {y : Value} (h : x.one = true) (r : Rel G x y) : y.oneCell' = true := by
  cases x with
  | p x =>
    cases x with
    | v x => simp only [Rel, PRel] at r; subst r; exact h
    | sl sz es => simp only [Rel, PRel] at r; obtain ⟨a, n, c, rfl, _⟩ := r; rfl
  | own => simp only [Rel] at r; obtain ⟨_, _, _, _, _, _, _, _, rfl, _⟩ := r; rfl
  | ptr => simp only [Rel] at r; obtain ⟨_, _, _, _, _, rfl⟩ := r; rfl
  | sub => simp only [Rel] at r; obtain ⟨_, _, _, _, _, _, rfl, _⟩ := r; rfl
  | iptr => simp only [Rel] at r; obtain ⟨_, _, rfl, _⟩ := r; rfl
  | agg => simp [AV.one] at h
  | tup => simp [AV.one] at h
  | fn => simp only [Rel] at r; obtain ⟨_, _, rfl, _⟩ := r; rfl
  | ifc => simp only [Rel] at r; obtain ⟨_, rfl, _⟩ := r; rfl
  | mref => simp only [Rel] at r; obtain ⟨_, _, rfl⟩ := r; rfl
  | cap0 => simp only [Rel] at r; obtain ⟨_, rfl⟩ := r; rfl
  | junk => simp [AV.one] at h

theorem RelL.length {G : Gh} : ∀ {xs : List AV} {ys : List Value}, RelL G xs ys → xs.length = ys.length
  | [], [], _ => rfl
  | _ :: _, _ :: _, h => by simp only [RelL] at h; simp [RelL.length h.2]
  | [], _ :: _, h => by simp [RelL] at h
  | _ :: _, [], h => by simp [RelL] at h

theorem RelL.get {G : Gh} : ∀ {xs : List AV} {ys : List Value} (i : Nat) (x : AV), RelL G xs ys → xs[i]? = some x → ∃ y, ys[i]? = some y ∧ Rel G x y
  | [], [], _, _, _, h => by simp at h
  | a :: as, b :: bs, 0, x, h, hx => by simp at hx; subst hx; simp only [RelL] at h; exact ⟨b, rfl, h.1⟩
  | a :: as, b :: bs, i + 1, x, h, hx => by simp only [RelL] at h; exact RelL.get i x h.2 (by simpa using hx)
  | [], _ :: _, _, _, h, _ => by simp [RelL] at h
  | _ :: _, [], _, _, h, _ => by simp [RelL] at h

theorem RelL.of {G : Gh} : ∀ {xs : List AV} {ys : List Value}, xs.length = ys.length → (∀ (i : Nat) (x : AV) (y : Value), xs[i]? = some x → ys[i]? = some y → Rel G x y) → RelL G xs ys
  | [], [], _, _ => by simp [RelL]
  | a :: as, b :: bs, hl, h => by
    simp only [RelL]
    exact ⟨h 0 a b rfl rfl, RelL.of (by simpa using hl) fun i x y hx hy => h (i + 1) x y (by simpa using hx) (by simpa using hy)⟩
  | [], _ :: _, hl, _ => by simp at hl
  | _ :: _, [], hl, _ => by simp at hl

theorem RelL.append {G : Gh} : ∀ {xs xs' : List AV} {ys ys' : List Value}, RelL G xs ys → RelL G xs' ys' → RelL G (xs ++ xs') (ys ++ ys')
  | [], _, [], _, _, h => by simpa using h
  | a :: as, _, b :: bs, _, h, h' => by simp only [RelL, List.cons_append] at h ⊢; exact ⟨h.1, RelL.append h.2 h'⟩
  | [], _, _ :: _, _, h, _ => by simp [RelL] at h
  | _ :: _, _, [], _, h, _ => by simp [RelL] at h

theorem RelL.take {G : Gh} : ∀ {xs : List AV} {ys : List Value} (n : Nat), RelL G xs ys → RelL G (xs.take n) (ys.take n)
  | [], [], _, _ => by simp [RelL]
  | a :: as, b :: bs, 0, _ => by simp [RelL]
  | a :: as, b :: bs, n + 1, h => by simp only [RelL, List.take_succ_cons] at h ⊢; exact ⟨h.1, RelL.take n h.2⟩
  | [], _ :: _, _, h => by simp [RelL] at h
  | _ :: _, [], _, h => by simp [RelL] at h

theorem RelL.drop {G : Gh} : ∀ {xs : List AV} {ys : List Value} (n : Nat), RelL G xs ys → RelL G (xs.drop n) (ys.drop n)
  | [], [], _, _ => by simp [RelL]
  | a :: as, b :: bs, 0, h => by simpa using h
  | a :: as, b :: bs, n + 1, h => by simp only [RelL, List.drop_succ_cons] at h ⊢; exact RelL.drop n h.2
  | [], _ :: _, _, h => by simp [RelL] at h
  | _ :: _, [], _, h => by simp [RelL] at h

theorem RelL.set {G : Gh} : ∀ {xs : List AV} {ys : List Value} (n : Nat) {x : AV} {y : Value}, RelL G xs ys → Rel G x y → RelL G (xs.set n x) (ys.set n y)
  | [], [], _, _, _, _, _ => by simp [RelL]
  | a :: as, b :: bs, 0, _, _, h, k => by simp only [RelL, List.set_cons_zero] at h ⊢; exact ⟨k, h.2⟩
  | a :: as, b :: bs, n + 1, _, _, h, k => by simp only [RelL, List.set_cons_succ] at h ⊢; exact ⟨h.1, RelL.set n h.2 k⟩
  | [], _ :: _, _, _, _, h, _ => by simp [RelL] at h
  | _ :: _, [], _, _, _, h, _ => by simp [RelL] at h

theorem PEls.get {M : Nat → Nat → Option Value} : ∀ {es : List (List PV)} {b o sz : Nat} (i : Nat) (e : List PV), PEls M b o sz es → es[i]? = some e → e.length = sz ∧ PCells M b (o + i * sz) e
  | [], _, _, _, _, _, _, h => by simp at h
  | a :: as, b, o, sz, 0, e, h, he => by simp at he; subst he; simp only [PEls] at h; exact ⟨h.1, by simpa using h.2.1⟩
  | a :: as, b, o, sz, i + 1, e, h, he => by
    simp only [PEls] at h
    have := PEls.get i e h.2.2 (by simpa using he)
    exact ⟨this.1, by rw [Nat.succ_mul, show o + (i * sz + sz) = o + sz + i * sz by omega]; exact this.2⟩

theorem PCells.get {M : Nat → Nat → Option Value} : ∀ {cs : List PV} {b o : Nat} (i : Nat) (c : PV), PCells M b o cs → cs[i]? = some c → ∃ y, M b (o + i) = some y ∧ PRel M c y
  | [], _, _, _, _, _, h => by simp at h
  | a :: as, b, o, 0, c, h, he => by simp at he; subst he; simp only [PCells] at h; simpa using h.1
  | a :: as, b, o, i + 1, c, h, he => by
    simp only [PCells] at h
    have := PCells.get i c h.2 (by simpa using he)
    rw [show o + (i + 1) = o + 1 + i by omega]; exact this

theorem PCells.drop {M : Nat → Nat → Option Value} : ∀ {cs : List PV} {b o : Nat} (i : Nat), PCells M b o cs → PCells M b (o + i) (cs.drop i)
  | [], _, _, _, _ => by simp [PCells]
  | a :: as, b, o, 0, h => by simpa using h
  | a :: as, b, o, i + 1, h => by
    simp only [PCells, List.drop_succ_cons] at h ⊢
    rw [show o + (i + 1) = o + 1 + i by omega]; exact PCells.drop i h.2

theorem PEls.drop {M : Nat → Nat → Option Value} : ∀ {es : List (List PV)} {b o sz : Nat} (i : Nat), PEls M b o sz es → PEls M b (o + i * sz) sz (es.drop i)
  | [], _, _, _, _, _ => by simp [PEls]
  | a :: as, b, o, sz, 0, h => by simpa using h
  | a :: as, b, o, sz, i + 1, h => by
    simp only [PEls, List.drop_succ_cons] at h ⊢
    rw [Nat.succ_mul, show o + (i * sz + sz) = o + sz + i * sz by omega]; exact PEls.drop i h.2.2

theorem PEls.take {M : Nat → Nat → Option Value} : ∀ {es : List (List PV)} {b o sz : Nat} (i : Nat), PEls M b o sz es → PEls M b o sz (es.take i)
  | [], _, _, _, _, _ => by simp [PEls]
  | a :: as, b, o, sz, 0, h => by simp [PEls]
  | a :: as, b, o, sz, i + 1, h => by
    simp only [PEls, List.take_succ_cons] at h ⊢
    exact ⟨h.1, h.2.1, PEls.take i h.2.2⟩

end Go.AM

/- The state: slots and blocks against the machine's frame and world; the walk of one operation after the other; the rules of control. -/
namespace Go.AM
set_option linter.unusedVariables false
set_option linter.unusedSimpArgs false
open Go Go.RowKit
set_option linter.unusedSectionVars false
variable [Glob]

abbrev Slots := List (Nat × AV)
def look : Slots → Nat → AV
  | [], _ => .junk
  | (j, v) :: r, i => if i = j then v else look r i

/-- The block of the machine in which a row lies. -/
def mapBlock : Value → Option Nat
  | .map r => r
  | _ => none
def cbOf (G : Gh) (id : Nat) : Blk → Option Nat
  | .row ver _ _ _ => (G.loc id ver).bind fun x => x.1.ownBlock
  | .mp ver _ => (G.loc id ver).bind fun x => mapBlock x.1

def BRel (G : Gh) (w : World) (id : Nat) : Blk → Prop
  | .row ver e sz es => ∃ v xs, G.loc id ver = some (v, sz) ∧ w.ownsRow G.w0.heap.size e sz v es.length xs ∧ RelL G es.flatten xs ∧
      (∀ x ∈ es, x.length = sz) ∧ (∀ x ∈ xs, x.oneCell' = true) ∧ ∀ g, v.ownBlock = some g → ∀ o, G.M g o = none
  | .mp ver es => ∃ b, G.loc id ver = some (.map (some b), 0) ∧ G.w0.heap.size ≤ b ∧ (∃ ents clock, w.heap[b]? = some (.map ents clock) ∧ ents.toList.map (·.key) = es.map (·.1) ∧ RelL G (es.map (·.2)) (ents.toList.map (·.val))) ∧ ∀ o, G.M b o = none

/-- The mark that a range over a function leaves among the deferred calls. -/
def markD (b : Nat) : Deferred := { target := .collected b, args := #[] }

/-- An object that holds a row or a map. -/
def isRow : Obj → Bool
  | .cells .. => true
  | .map .. => true
  | _ => false

structure HRel (G : Gh) (h : AHeap) (w : World) : Prop where
  below : Below G.w0.heap.size G.w0 w
  imm : ∀ b o v, G.M b o = some v → w.cell? ⟨b, o, none⟩ = some v ∧ v.oneCell' = true
  blk : ∀ id k, h id = some k → BRel G w id k
  sep : ∀ i j k l b, i ≠ j → h i = some k → h j = some l → cbOf G i k = some b → cbOf G j l ≠ some b
  dom : ∀ id ver x, G.loc id ver = some x → h id ≠ none
  top : ∀ id k v, h id = some k → k.ver < v → G.loc id v = none
  glb : ∀ p ∈ Glob.tab, PCells G.M p.1 0 p.2
  mks : ∀ b ∈ G.mks, G.w0.heap.size ≤ b ∧ w.heap[b]? = some (.deferred (some []))
  outs : ∀ p ∈ G.out, G.w0.heap.size ≤ p.1 ∧ w.heap[p.1]? = some p.2 ∧ isRow p.2 = false
  apt : ∀ b ∈ G.mks, ∀ p ∈ G.out, p.1 ≠ b

/-- A block of a row or of a map is neither a mark's nor one of those that stand apart. -/
def offG (G : Gh) (g : Nat) : Prop := (∀ b ∈ G.mks, b ≠ g) ∧ ∀ p ∈ G.out, p.1 ≠ g
theorem HRel.mk_ne {G : Gh} {h : AHeap} {w : World} (H : HRel G h w) {g : Nat} {o : Obj} (hg : w.heap[g]? = some o) (hne : isRow o = true) : offG G g := by
  refine ⟨fun b hb e => ?_, fun p hp e => ?_⟩
  · have := (H.mks b hb).2
    rw [e, hg] at this
    cases this
    cases hne
  · obtain ⟨_, h1, h2⟩ := H.outs p hp
    rw [e, hg] at h1
    cases h1
    rw [hne] at h2
    cases h2
theorem HRel.mk_own {G : Gh} {h : AHeap} {w : World} (H : HRel G h w) {base sz n : Nat} {e : TypeId} {v : Value} {xs : List Value} (ho : w.ownsRow base e sz v n xs) {g : Nat} (hg : v.ownBlock = some g) : offG G g := by
  rcases ho.2 with ⟨rfl, _⟩ | ⟨g', cap, cur, rfl, _, hh, _⟩
  · simp [Value.ownBlock] at hg
  · simp [Value.ownBlock] at hg
    subst hg
    exact H.mk_ne hh rfl

structure StRel (N : Nat) (G : Gh) (t : Slots) (h : AHeap) (a : Act) (w : World) : Prop where
  size : a.tmps.size = N
  defers : ∃ bs : List Nat, bs.Nodup ∧ (∀ b ∈ bs, b ∈ G.mks) ∧ a.defers = bs.map markD
  slots : ∀ i, Rel G (look t i) (a.tmps.getD i undef)
  heap : HRel G h w

def aev (t : Slots) : Operand → AV
  | .tmp i => look t i
  | .const v => .p (.v v)
  | .global g => match gfind Glob.tab g with | some cs => .iptr cs | none => .p (.v (.pointer (some ⟨g, 0, none⟩)))
  | .func f => .p (.v (.func (.func f) #[] #[]))

theorem StRel.ev {N : Nat} {G : Gh} {t : Slots} {h : AHeap} {a : Act} {w : World} (H : StRel N G t h a w) (x : Operand) : Rel G (aev t x) (a.eval x) := by
  cases x with
  | tmp i => exact H.slots i
  | const v => simp [aev, Act.eval, Rel, PRel]
  | global g =>
    simp only [aev, Act.eval]
    cases hg : gfind Glob.tab g with
    | none => simp [Rel, PRel]
    | some cs => simp only [Rel]; exact ⟨g, 0, rfl, H.heap.glb _ (gfind_mem hg)⟩
  | func f => simp [aev, Act.eval, Rel, PRel]

def del (d : Nat) : Slots → Slots
  | [] => []
  | (j, v) :: r => if d = j then del d r else (j, v) :: del d r

theorem look_del {d i : Nat} (h : i ≠ d) : ∀ (t : Slots), look (del d t) i = look t i
  | [] => rfl
  | (j, v) :: r => by
    simp only [del, look]
    by_cases e : d = j
    · rw [if_pos e, if_neg (fun e2 => h (e2.trans e.symm))]; exact look_del h r
    · rw [if_neg e]; simp only [look]; rw [look_del h r]

def aput (t : Slots) : Option Tmp → AV → Slots
  | some d, v => (d, v) :: del d t
  | none, _ => t

theorem look_aput (t : Slots) (d i : Nat) (v : AV) : look (aput t (some d) v) i = if i = d then v else look t i := by
  simp only [aput, look]
  split
  · rfl
  · rename_i h; exact look_del h t

def fits (N : Nat) : Option Tmp → Bool
  | some d => decide (d < N)
  | none => true

theorem StRel.put {N : Nat} {G G' : Gh} {t : Slots} {h h' : AHeap} {a : Act} {w w' : World} (H : StRel N G t h a w) (hle : G.Le G') (hh : HRel G' h' w') {d : Option Tmp} {v : AV} {u : Value}
    (hd : fits N d = true) (hv : Rel G' v u) : StRel N G' (aput t d v) h' (a.put d u) w' := by
  cases d with
  | none => exact ⟨H.size, let ⟨bs, h1, h2, h3⟩ := H.defers; ⟨bs, h1, fun b hb => hle.k b (h2 b hb), h3⟩, fun i => Rel.mono hle (H.slots i), hh⟩
  | some d =>
    simp only [fits, decide_eq_true_eq] at hd
    refine ⟨by simp [Act.put, H.size], let ⟨bs, h1, h2, h3⟩ := H.defers; ⟨bs, h1, fun b hb => hle.k b (h2 b hb), h3⟩, fun i => ?_, hh⟩
    rw [look_aput]
    simp only [Act.put]
    by_cases hi : i = d
    · subst hi
      rw [if_pos rfl]
      have : i < a.tmps.size := by rw [H.size]; exact hd
      simp [Array.getD, this, hv]
    · rw [if_neg hi]
      have := H.slots i
      have e : (a.tmps.setIfInBounds d u).getD i undef = a.tmps.getD i undef := by
        simp only [Array.getD_eq_getD_getElem?]
        rw [Array.getElem?_setIfInBounds_ne (fun e => hi e.symm)]
      rw [e]
      exact Rel.mono hle this

abbrev APost := Exit → Slots → AHeap → Prop

/-- What a ghost must know of the heap at which it was laid. -/
def Anchor (G : Gh) (h : AHeap) : Prop := ∃ w, HRel G h w

/-- The code's weakest condition over the abstract state; h0: the heap when the function began. -/
def AWp (P : Program) (N : Nat) (h0 : AHeap) (c : Code) (Q : APost) (t : Slots) (h : AHeap) : Prop :=
  ∀ G0 G a w, Anchor G0 h0 → G0.Le G → StRel N G t h a w → c.wp P (fun e a' w' => ∃ G' t' h', G0.Le G' ∧ StRel N G' t' h' a' w' ∧ Q e t' h') a w

section control
variable {P : Program} {N : Nat} {h0 : AHeap} {Q : APost} {t : Slots} {h : AHeap}

theorem awp_mono {c : Code} {Q' : APost} (H : AWp P N h0 c Q t h) (hq : ∀ e t h, Q e t h → Q' e t h) : AWp P N h0 c Q' t h :=
  fun G0 G a w ha hl st => wp_mono (H G0 G a w ha hl st) fun e a' w' ⟨G', t', h', l, s, q⟩ => ⟨G', t', h', l, s, hq _ _ _ q⟩

theorem awp_skip (H : Q .normal t h) : AWp P N h0 .skip Q t h := fun _ G a w _ hl st => wp_skip ⟨G, t, h, hl, st, H⟩
theorem awp_label {l : Nat} (H : Q .normal t h) : AWp P N h0 (.label l) Q t h := fun _ G a w _ hl st => wp_label ⟨G, t, h, hl, st, H⟩
theorem awp_exit {id : Nat} (H : Q (.exit id) t h) : AWp P N h0 (.exit id) Q t h := fun _ G a w _ hl st => wp_exit ⟨G, t, h, hl, st, H⟩
theorem awp_ret (H : Q .ret t h) : AWp P N h0 .ret Q t h := fun _ G a w _ hl st => wp_ret ⟨G, t, h, hl, st, H⟩

/-- What stands behind: 'next' on the normal way, Q on every other. -/
def athen (next : Slots → AHeap → Prop) (Q : APost) : APost
  | .normal, t, h => next t h
  | e, t, h => Q e t h

theorem awp_seq {x y : Code} (H : AWp P N h0 x (athen (AWp P N h0 y Q) Q) t h) : AWp P N h0 (.seq x y) Q t h := by
  intro G0 G a w ha hl st
  refine wp_seq (wp_mono (H G0 G a w ha hl st) ?_)
  intro e a' w' ⟨G', t', h', l, s, q⟩
  cases e with
  | normal =>
    simp only [athen] at q
    simp only [Exit.then]
    exact q G0 G' a' w' ha l s
  | exit id => exact ⟨G', t', h', l, s, q⟩
  | goto l' => exact ⟨G', t', h', l, s, q⟩
  | ret => exact ⟨G', t', h', l, s, q⟩
  | panic c => exact ⟨G', t', h', l, s, q⟩
  | outgrown => exact ⟨G', t', h', l, s, q⟩

theorem awp_cond {c : Operand} {x y : Code} (b : Bool) (hc : aev t c = .p (.v (.bool b))) (H1 : b = true → AWp P N h0 x Q t h) (H2 : b = false → AWp P N h0 y Q t h) :
    AWp P N h0 (.cond c x y) Q t h := by
  intro G0 G a w ha hl st
  have hr := st.ev c
  rw [hc] at hr
  simp only [Rel, PRel] at hr
  exact wp_cond_split hr (fun e => H1 e G0 G a w ha hl st) (fun e => H2 e G0 G a w ha hl st)

def ablock (id : Nat) (Q : APost) : APost
  | .exit id', t, h => if id' = id then Q .normal t h else Q (.exit id') t h
  | e, t, h => Q e t h

theorem awp_block {id : Nat} {c : Code} (H : AWp P N h0 c (ablock id Q) t h) : AWp P N h0 (.block id c) Q t h := by
  intro G0 G a w ha hl st
  refine wp_block (wp_mono (H G0 G a w ha hl st) ?_)
  intro e a' w' ⟨G', t', h', l, s, q⟩
  cases e with
  | exit id' =>
    simp only [ablock] at q
    simp only [Exit.inBlock]
    split at q
    · rename_i e; rw [if_pos e]; exact ⟨G', t', h', l, s, q⟩
    · rename_i e; rw [if_neg e]; exact ⟨G', t', h', l, s, q⟩
  | normal => exact ⟨G', t', h', l, s, q⟩
  | goto l' => exact ⟨G', t', h', l, s, q⟩
  | ret => exact ⟨G', t', h', l, s, q⟩
  | panic c => exact ⟨G', t', h', l, s, q⟩
  | outgrown => exact ⟨G', t', h', l, s, q⟩

/-- A state may be looked at as another. -/
def Weak (N : Nat) (h0 : AHeap) (t : Slots) (h : AHeap) (t' : Slots) (h' : AHeap) : Prop :=
  ∀ G0 G a w, Anchor G0 h0 → G0.Le G → StRel N G t h a w → ∃ G', G0.Le G' ∧ StRel N G' t' h' a w

theorem Weak.refl (N : Nat) (h0 : AHeap) (t : Slots) (h : AHeap) : Weak N h0 t h t h := fun _ G _ _ _ hl st => ⟨G, hl, st⟩
theorem Weak.trans {t1 t2 t3 : Slots} {h1 h2 h3 : AHeap} (a : Weak N h0 t1 h1 t2 h2) (b : Weak N h0 t2 h2 t3 h3) : Weak N h0 t1 h1 t3 h3 :=
  fun G0 G x w ha hl st => let ⟨G', l', st'⟩ := a G0 G x w ha hl st; b G0 G' x w ha l' st'

theorem awp_weak {c : Code} {t' : Slots} {h' : AHeap} (hw : Weak N h0 t h t' h') (H : AWp P N h0 c Q t' h') : AWp P N h0 c Q t h :=
  fun G0 G a w ha hl st => let ⟨G', l', st'⟩ := hw G0 G a w ha hl st; H G0 G' a w ha l' st'

/-- A loop: at the head of each round the state is one of a family's, and a measure goes down. -/
theorem awp_loop {c : Code} {α : Type} (T : α → Slots) (H : α → AHeap) (μ : α → Nat) (x0 : α) (start : Weak N h0 t h (T x0) (H x0))
    (round : ∀ x, AWp P N h0 c (athen (fun t' h' => ∃ y, Weak N h0 t' h' (T y) (H y) ∧ μ y < μ x) Q) (T x) (H x)) : AWp P N h0 (.loop c) Q t h := by
  intro G0 G a w ha hl st
  obtain ⟨G, hl, st⟩ := start G0 G a w ha hl st
  refine wp_loop_ghost (fun n a' w' => ∃ x G', μ x = n ∧ G0.Le G' ∧ StRel N G' (T x) (H x) a' w') _ ⟨x0, G, rfl, hl, st⟩ ?_
  intro n a1 w1 ⟨x, G1, hm, hl1, st1⟩
  refine wp_mono (round x G0 G1 a1 w1 ha hl1 st1) ?_
  intro e a' w' ⟨G', t', h', l, s, q⟩
  cases e with
  | normal =>
    simp only [athen] at q
    obtain ⟨y, hw, hlt⟩ := q
    obtain ⟨G2, l2, s2⟩ := hw G0 G' a' w' ha l s
    exact ⟨μ y, by omega, y, G2, rfl, l2, s2⟩
  | exit id => exact ⟨G', t', h', l, s, q⟩
  | goto l' => exact ⟨G', t', h', l, s, q⟩
  | ret => exact ⟨G', t', h', l, s, q⟩
  | panic c => exact ⟨G', t', h', l, s, q⟩
  | outgrown => exact ⟨G', t', h', l, s, q⟩

end control
end Go.AM

/- A state may be looked at as another: what is no longer needed is dropped; a row that nobody writes any more becomes a plain list; a nil slice becomes an empty row of the call's own. Loops. -/
namespace Go.AM
set_option linter.unusedVariables false
set_option linter.unusedSimpArgs false
open Go Go.RowKit
set_option linter.unusedSectionVars false
variable [Glob]

mutual
def conv (D : Nat → Prop) (A : AV → AV → Prop) : AV → AV → Prop
  | .p x, y => y = .junk ∨ A (.p x) y ∨ y = .p x
  | .own id v o l, y => y = .junk ∨ A (.own id v o l) y ∨ (y = .own id v o l ∧ D id)
  | .ptr id v i j, y => y = .junk ∨ (y = .ptr id v i j ∧ D id)
  | .sub id v i j l, y => y = .junk ∨ (y = .sub id v i j l ∧ D id)
  | .iptr cs, y => y = .junk ∨ y = .iptr cs
  | .agg xs, y => y = .junk ∨ ∃ ys, y = .agg ys ∧ convL D A xs ys
  | .tup xs, y => y = .junk ∨ ∃ ys, y = .tup ys ∧ convL D A xs ys
  | .fn f xs zs, y => y = .junk ∨ ∃ ys ws, y = .fn f ys ws ∧ convL D A xs ys ∧ convL D A zs ws
  | .ifc t x, y => y = .junk ∨ ∃ x', y = .ifc t x' ∧ conv D A x x'
  | .mref id v, y => y = .junk ∨ (y = .mref id v ∧ D id)
  | .cap0, y => y = .junk ∨ y = .cap0
  | .junk, y => y = .junk
def convL (D : Nat → Prop) (A : AV → AV → Prop) : List AV → List AV → Prop
  | [], [] => True
  | x :: xs, y :: ys => conv D A x y ∧ convL D A xs ys
  | [], _ :: _ => False
  | _ :: _, [] => False
end

theorem conv_junk (D : Nat → Prop) (A : AV → AV → Prop) (x : AV) : conv D A x .junk := by cases x <;> simp [conv]

mutual
/-- What is kept reads in the new ghost as it read in the old. -/
theorem conv_rel {G G' : Gh} {D : Nat → Prop} {A : AV → AV → Prop} (hm : ∀ b o v, G.M b o = some v → G'.M b o = some v) (hl : ∀ id ver x, D id → G.loc id ver = some x → G'.loc id ver = some x)
    (hA : ∀ x y v, A x y → Rel G x v → Rel G' y v) : ∀ {x y : AV} {v : Value}, conv D A x y → Rel G x v → Rel G' y v
  | .p x, y, v, h, r => by
    simp only [conv] at h
    rcases h with rfl | h | rfl
    · simp [Rel]
    · exact hA _ _ _ h r
    · simp only [Rel] at r ⊢; exact PRel.mono hm r
  | .own .., y, v, h, r => by
    simp only [conv] at h
    rcases h with rfl | h | ⟨rfl, hd⟩
    · simp [Rel]
    · exact hA _ _ _ h r
    · simp only [Rel] at r ⊢
      obtain ⟨a, n, c, sz, a', h1, h2⟩ := r
      exact ⟨a, n, c, sz, a', hl _ _ _ hd h1, h2⟩
  | .ptr .., y, v, h, r => by
    simp only [conv] at h
    rcases h with rfl | ⟨rfl, hd⟩
    · simp [Rel]
    · simp only [Rel] at r ⊢
      obtain ⟨g, n, c, sz, h1, h2⟩ := r
      exact ⟨g, n, c, sz, hl _ _ _ hd h1, h2⟩
  | .sub .., y, v, h, r => by
    simp only [conv] at h
    rcases h with rfl | ⟨rfl, hd⟩
    · simp [Rel]
    · simp only [Rel] at r ⊢
      obtain ⟨g, n, c, sz, cap, h1, h2⟩ := r
      exact ⟨g, n, c, sz, cap, hl _ _ _ hd h1, h2⟩
  | .iptr cs, y, v, h, r => by
    simp only [conv] at h
    rcases h with rfl | rfl
    · simp [Rel]
    · simp only [Rel] at r ⊢
      obtain ⟨b, o, h1, h2⟩ := r
      exact ⟨b, o, h1, PCells.mono hm h2⟩
  | .agg xs, y, v, h, r => by
    simp only [conv] at h
    rcases h with rfl | ⟨ys, rfl, hc⟩
    · simp [Rel]
    · simp only [Rel] at r ⊢
      obtain ⟨vs, h1, h2⟩ := r
      exact ⟨vs, h1, convL_rel hm hl hA hc h2⟩
  | .tup xs, y, v, h, r => by
    simp only [conv] at h
    rcases h with rfl | ⟨ys, rfl, hc⟩
    · simp [Rel]
    · simp only [Rel] at r ⊢
      obtain ⟨vs, h1, h2⟩ := r
      exact ⟨vs, h1, convL_rel hm hl hA hc h2⟩
  | .fn f xs zs, y, v, h, r => by
    simp only [conv] at h
    rcases h with rfl | ⟨ys, ws, rfl, hc, hd⟩
    · simp [Rel]
    · simp only [Rel] at r ⊢
      obtain ⟨a, b, h1, h2, h3⟩ := r
      exact ⟨a, b, h1, convL_rel hm hl hA hc h2, convL_rel hm hl hA hd h3⟩
  | .ifc t x, y, v, h, r => by
    simp only [conv] at h
    rcases h with rfl | ⟨x', rfl, hc⟩
    · simp [Rel]
    · simp only [Rel] at r ⊢
      obtain ⟨u, h1, h2⟩ := r
      exact ⟨u, h1, conv_rel hm hl hA hc h2⟩
  | .mref .., y, v, h, r => by
    simp only [conv] at h
    rcases h with rfl | ⟨rfl, hd⟩
    · simp [Rel]
    · simp only [Rel] at r ⊢
      obtain ⟨b, h1, h2⟩ := r
      exact ⟨b, hl _ _ _ hd h1, h2⟩
  | .cap0, y, v, h, r => by
    simp only [conv] at h
    rcases h with rfl | rfl
    · simp [Rel]
    · simpa only [Rel] using r
  | .junk, y, v, h, r => by
    simp only [conv] at h
    subst h
    simp [Rel]
theorem convL_rel {G G' : Gh} {D : Nat → Prop} {A : AV → AV → Prop} (hm : ∀ b o v, G.M b o = some v → G'.M b o = some v) (hl : ∀ id ver x, D id → G.loc id ver = some x → G'.loc id ver = some x)
    (hA : ∀ x y v, A x y → Rel G x v → Rel G' y v) : ∀ {xs ys : List AV} {vs : List Value}, convL D A xs ys → RelL G xs vs → RelL G' ys vs
  | [], [], [], _, _ => by simp [RelL]
  | x :: xs, y :: ys, v :: vs, h, r => by
    simp only [convL, RelL] at h r ⊢
    exact ⟨conv_rel hm hl hA h.1 r.1, convL_rel hm hl hA h.2 r.2⟩
  | [], _ :: _, _, h, _ => by simp [convL] at h
  | _ :: _, [], _, h, _ => by simp [convL] at h
  | [], [], _ :: _, _, r => by simp [RelL] at r
  | _ :: _, _ :: _, [], _, r => by simp [RelL] at r
end

theorem convL_append {D : Nat → Prop} {A : AV → AV → Prop} : ∀ {xs ys xs' ys' : List AV}, convL D A xs ys → convL D A xs' ys' → convL D A (xs ++ xs') (ys ++ ys')
  | [], [], _, _, _, h => by simpa using h
  | x :: xs, y :: ys, _, _, h, h' => by simp only [convL, List.cons_append] at h ⊢; exact ⟨h.1, convL_append h.2 h'⟩
  | [], _ :: _, _, _, h, _ => by simp [convL] at h
  | _ :: _, [], _, _, h, _ => by simp [convL] at h

def convE (D : Nat → Prop) (A : AV → AV → Prop) : List (List AV) → List (List AV) → Prop
  | [], [] => True
  | x :: xs, y :: ys => convL D A x y ∧ convE D A xs ys
  | [], _ :: _ => False
  | _ :: _, [] => False

theorem convE_flatten {D : Nat → Prop} {A : AV → AV → Prop} : ∀ {xs ys : List (List AV)}, convE D A xs ys → convL D A xs.flatten ys.flatten
  | [], [], _ => by simp [convL]
  | x :: xs, y :: ys, h => by simp only [convE, List.flatten_cons] at h ⊢; exact convL_append h.1 (convE_flatten h.2)
  | [], _ :: _, h => by simp [convE] at h
  | _ :: _, [], h => by simp [convE] at h

theorem convL_length {D : Nat → Prop} {A : AV → AV → Prop} : ∀ {xs ys : List AV}, convL D A xs ys → xs.length = ys.length
  | [], [], _ => rfl
  | _ :: _, _ :: _, h => by simp only [convL] at h; simp [convL_length h.2]
  | [], _ :: _, h => by simp [convL] at h
  | _ :: _, [], h => by simp [convL] at h

theorem convE_length {D : Nat → Prop} {A : AV → AV → Prop} : ∀ {xs ys : List (List AV)}, convE D A xs ys → xs.length = ys.length ∧ ∀ n, (∀ x ∈ xs, x.length = n) → ∀ y ∈ ys, y.length = n
  | [], [], _ => by simp
  | x :: xs, y :: ys, h => by
    simp only [convE] at h
    obtain ⟨h1, h2⟩ := convE_length h.2
    refine ⟨by simp [h1], fun n hn z hz => ?_⟩
    cases hz with
    | head => rw [← convL_length h.1]; exact hn x (by simp)
    | tail _ hz => exact h2 n (fun x hx => hn x (by simp [hx])) z hz
  | [], _ :: _, h => by simp [convE] at h
  | _ :: _, [], h => by simp [convE] at h

mutual
theorem conv_mono {D : Nat → Prop} {A A' : AV → AV → Prop} (hA : ∀ x y, A x y → A' x y) : ∀ {x y : AV}, conv D A x y → conv D A' x y
  | .p x, y, h => by simp only [conv] at h ⊢; exact h.imp id (Or.imp (hA _ _) id)
  | .own .., y, h => by simp only [conv] at h ⊢; exact h.imp id (Or.imp (hA _ _) id)
  | .ptr .., y, h => by simpa only [conv] using h
  | .sub .., y, h => by simpa only [conv] using h
  | .iptr .., y, h => by simpa only [conv] using h
  | .agg xs, y, h => by simp only [conv] at h ⊢; exact h.imp id fun ⟨ys, e, h⟩ => ⟨ys, e, convL_mono hA h⟩
  | .tup xs, y, h => by simp only [conv] at h ⊢; exact h.imp id fun ⟨ys, e, h⟩ => ⟨ys, e, convL_mono hA h⟩
  | .fn f xs zs, y, h => by simp only [conv] at h ⊢; exact h.imp id fun ⟨ys, ws, e, h, k⟩ => ⟨ys, ws, e, convL_mono hA h, convL_mono hA k⟩
  | .ifc t x, y, h => by simp only [conv] at h ⊢; exact h.imp id fun ⟨x', e, h⟩ => ⟨x', e, conv_mono hA h⟩
  | .mref .., y, h => by simpa only [conv] using h
  | .cap0, y, h => by simpa only [conv] using h
  | .junk, y, h => by simpa only [conv] using h
theorem convL_mono {D : Nat → Prop} {A A' : AV → AV → Prop} (hA : ∀ x y, A x y → A' x y) : ∀ {xs ys : List AV}, convL D A xs ys → convL D A' xs ys
  | [], [], _ => by simp [convL]
  | x :: xs, y :: ys, h => by simp only [convL] at h ⊢; exact ⟨conv_mono hA h.1, convL_mono hA h.2⟩
  | [], _ :: _, h => by simp [convL] at h
  | _ :: _, [], h => by simp [convL] at h
end

theorem convE_self_of {D : Nat → Prop} {A : AV → AV → Prop} : ∀ {xs : List (List AV)}, convL D A xs.flatten xs.flatten → convE D A xs xs
  | [], _ => by simp [convE]
  | x :: xs, h => by
    have split : ∀ {a b : List AV}, convL D A (a ++ b) (a ++ b) → convL D A a a ∧ convL D A b b := by
      intro a
      induction a with
      | nil => intro b h; exact ⟨by simp [convL], by simpa using h⟩
      | cons c a ih => intro b h; simp only [List.cons_append, convL] at h ⊢; exact ⟨⟨h.1, (ih h.2).1⟩, (ih h.2).2⟩
    simp only [List.flatten_cons] at h
    simp only [convE]
    exact ⟨(split h).1, convE_self_of (split h).2⟩

def convB (D : Nat → Prop) (A : AV → AV → Prop) : Blk → Blk → Prop
  | .row v e sz es, .row v' e' sz' es' => v' = v ∧ e' = e ∧ sz' = sz ∧ convE D A es es'
  | .mp v es, .mp v' es' => v' = v ∧ es'.map (·.1) = es.map (·.1) ∧ convL D A (es.map (·.2)) (es'.map (·.2))
  | .row .., .mp .. => False
  | .mp .., .row .. => False

theorem convB_ver {D : Nat → Prop} {A : AV → AV → Prop} {k k' : Blk} (h : convB D A k k') : k'.ver = k.ver := by
  cases k <;> cases k' <;> first | exact h.1 | exact h.elim

theorem convB_brel {G G' : Gh} {D : Nat → Prop} {A : AV → AV → Prop} (hm : ∀ b o v, G.M b o = some v → G'.M b o = some v) (hl : ∀ id ver x, D id → G.loc id ver = some x → G'.loc id ver = some x)
    (hA : ∀ x y v, A x y → Rel G x v → Rel G' y v) (hw : G'.w0 = G.w0) {w : World} {id : Nat} {k k' : Blk} (hd : D id) (h : convB D A k k') (hM : ∀ g, cbOf G id k = some g → ∀ o, G'.M g o = G.M g o)
    (r : BRel G w id k) : BRel G' w id k' ∧ cbOf G' id k' = cbOf G id k := by
  cases k with
  | row v e sz es =>
    cases k' with
    | row v' e' sz' es' =>
      obtain ⟨rfl, rfl, rfl, hc⟩ := h
      obtain ⟨x, xs, h1, h2, h3, h4, h6, h5⟩ := r
      have hlen := convE_length hc
      have hl' := hl _ _ _ hd h1
      have hcb : cbOf G id (.row v' e' sz' es) = x.ownBlock := by simp [cbOf, h1]
      refine ⟨⟨x, xs, hl', ?_, convL_rel hm hl hA (convE_flatten hc) h3, hlen.2 _ h4, h6, fun g hg o => ?_⟩, ?_⟩
      · rw [hw, ← hlen.1]; exact h2
      · rw [hM g (by rw [hcb]; exact hg)]; exact h5 g hg o
      · simp [cbOf, h1, hl']
    | mp => exact h.elim
  | mp v es =>
    cases k' with
    | row => exact h.elim
    | mp v' es' =>
      obtain ⟨rfl, he, hc⟩ := h
      obtain ⟨b, h1, h2, ⟨ents, clock, h3, h4, h5⟩, h6⟩ := r
      have hl' := hl _ _ _ hd h1
      have hcb : cbOf G id (.mp v' es) = some b := by simp [cbOf, h1, mapBlock]
      refine ⟨⟨b, hl', by rw [hw]; exact h2, ⟨ents, clock, h3, by rw [h4, he], convL_rel hm hl hA hc h5⟩, fun o => ?_⟩, ?_⟩
      · rw [hM b hcb]; exact h6 o
      · simp [cbOf, h1, hl']

/-- Values and a heap may be looked at as others, and all that an elder ghost (of the heap h0) knows stays. -/
def WeakL (h0 : AHeap) (xs : List AV) (h : AHeap) (ys : List AV) (h' : AHeap) : Prop :=
  ∀ G0 G w vs, Anchor G0 h0 → G0.Le G → HRel G h w → RelL G xs vs → ∃ G', G0.Le G' ∧ HRel G' h' w ∧ RelL G' ys vs ∧ ∀ b ∈ G.mks, b ∈ G'.mks

theorem WeakL.refl (h0 : AHeap) (xs : List AV) (h : AHeap) : WeakL h0 xs h xs h := fun _ G _ _ _ hl hr r => ⟨G, hl, hr, r, fun _ h => h⟩

/-! ### Dropping -/

def noA : AV → AV → Prop := fun _ _ => False

mutual
theorem conv_self {G : Gh} {D : Nat → Prop} (hD : ∀ id ver x, G.loc id ver = some x → D id) : ∀ {x : AV} {v : Value}, Rel G x v → conv D noA x x
  | .p x, _, _ => by simp [conv]
  | .own id v o l, _, r => by
    simp only [Rel] at r
    obtain ⟨a, n, c, sz, a', h1, _⟩ := r
    simp only [conv]; exact .inr (.inr ⟨trivial, hD _ _ _ h1⟩)
  | .ptr id v i j, _, r => by
    simp only [Rel] at r
    obtain ⟨g, n, c, sz, h1, _⟩ := r
    simp only [conv]; exact .inr ⟨trivial, hD _ _ _ h1⟩
  | .sub id v i j l, _, r => by
    simp only [Rel] at r
    obtain ⟨g, n, c, sz, cap, h1, _⟩ := r
    simp only [conv]; exact .inr ⟨trivial, hD _ _ _ h1⟩
  | .iptr cs, _, _ => by simp [conv]
  | .agg cs, _, r => by
    simp only [Rel] at r
    obtain ⟨vs, _, h2⟩ := r
    simp only [conv]; exact .inr ⟨cs, rfl, convL_self hD h2⟩
  | .tup cs, _, r => by
    simp only [Rel] at r
    obtain ⟨vs, _, h2⟩ := r
    simp only [conv]; exact .inr ⟨cs, rfl, convL_self hD h2⟩
  | .fn f xs zs, _, r => by
    simp only [Rel] at r
    obtain ⟨a, b, _, h2, h3⟩ := r
    simp only [conv]; exact .inr ⟨xs, zs, rfl, convL_self hD h2, convL_self hD h3⟩
  | .ifc t x, _, r => by
    simp only [Rel] at r
    obtain ⟨u, _, h2⟩ := r
    simp only [conv]; exact .inr ⟨x, rfl, conv_self hD h2⟩
  | .mref id v, _, r => by
    simp only [Rel] at r
    obtain ⟨b, h1, _⟩ := r
    simp only [conv]; exact .inr ⟨trivial, hD _ _ _ h1⟩
  | .cap0, _, _ => by simp [conv]
  | .junk, _, _ => by simp [conv]
theorem convL_self {G : Gh} {D : Nat → Prop} (hD : ∀ id ver x, G.loc id ver = some x → D id) : ∀ {xs : List AV} {vs : List Value}, RelL G xs vs → convL D noA xs xs
  | [], _, _ => by simp [convL]
  | x :: xs, v :: vs, r => by
    simp only [RelL] at r
    simp only [convL]; exact ⟨conv_self hD r.1, convL_self hD r.2⟩
  | _ :: _, [], r => by simp [RelL] at r
end

open Classical in
theorem weak_cut {h0 h h' : AHeap} {xs ys : List AV} (hx : convL (fun id => h' id ≠ none) noA xs ys)
    (hb : ∀ id k, h' id = some k → h id = some k ∧ (h0 id = some k ∨ convB (fun id => h' id ≠ none) noA k k)) (hd : ∀ id, h0 id ≠ none → h' id ≠ none) : WeakL h0 xs h ys h' := by
  intro G0 G w vs ⟨w1, ha⟩ hle hr hrel
  let G' : Gh := { M := G.M, loc := fun id ver => if h' id ≠ none then G.loc id ver else none, w0 := G.w0, mks := G.mks, out := G.out }
  have hm : ∀ b o v, G.M b o = some v → G'.M b o = some v := fun _ _ _ h => h
  have hl : ∀ id ver x, h' id ≠ none → G.loc id ver = some x → G'.loc id ver = some x := fun id ver x hd h => by simp only [G']; rw [if_pos hd]; exact h
  have hA : ∀ x y v, noA x y → Rel G x v → Rel G' y v := fun _ _ _ h => h.elim
  have hle' : G0.Le G' := ⟨hle.m, fun id ver x hx => hl id ver x (hd id (ha.dom id ver x hx)) (hle.l id ver x hx), hle.w, hle.k, hle.o⟩
  refine ⟨G', hle', ?_, convL_rel hm hl hA hx hrel, fun _ h => h⟩
  have key : ∀ id k, h' id = some k → BRel G' w id k ∧ cbOf G' id k = cbOf G id k := by
    intro id k hk
    obtain ⟨h1, h2⟩ := hb id k hk
    have hd' : h' id ≠ none := by simp [hk]
    rcases h2 with h2 | h2
    · have b0 := ha.blk id k h2
      have b1 := hr.blk id k h1
      cases k with
      | row ver e sz es =>
        obtain ⟨x, xs', l1, o1, r1, s1, c1, m1⟩ := b1
        obtain ⟨x0, xs0, l0, o0, r0, _, _, _⟩ := b0
        refine ⟨⟨x, xs', hl _ _ _ hd' l1, o1, ?_, s1, c1, m1⟩, by simp [cbOf, l1, hl _ _ _ hd' l1]⟩
        exact convL_rel hm hl hA (convL_self (fun id ver x h => hd id (ha.dom id ver x h)) r0) r1
      | mp ver es =>
        obtain ⟨b, l1, o1, ⟨ents, clock, h3, h4, h5⟩, m1⟩ := b1
        obtain ⟨b0, l0, o0, ⟨ents0, clock0, g3, g4, g5⟩, m0⟩ := b0
        exact ⟨⟨b, hl _ _ _ hd' l1, o1, ⟨ents, clock, h3, h4, convL_rel hm hl hA (convL_self (fun id ver x h => hd id (ha.dom id ver x h)) g5) h5⟩, m1⟩, by simp [cbOf, l1, hl _ _ _ hd' l1]⟩
    · exact convB_brel hm hl hA rfl hd' h2 (fun _ _ _ => rfl) (hr.blk id k h1)
  refine ⟨hr.below, hr.imm, fun id k hk => (key id k hk).1, ?_, ?_, fun id k v hk hv => ?_, hr.glb, hr.mks, hr.outs, hr.apt⟩
  rotate_left 2
  · show (if h' id ≠ none then G.loc id v else none) = none
    rw [hr.top id k v (hb id k hk).1 hv]; split <;> rfl
  · intro i j k l b hij hi hj h1
    rw [(key i k hi).2] at h1
    rw [(key j l hj).2]
    exact hr.sep i j k l b hij (hb i k hi).1 (hb j l hj).1 h1
  · intro id ver x hx
    simp only [G'] at hx
    split at hx
    · assumption
    · cases hx

/-! ### The slots -/

theorem slots_of_list {G' : Gh} : ∀ {t' : Slots} {vs : List Value} (a : Act), RelL G' (t'.map (·.2)) vs → (∀ (i : Nat) (p : Nat × AV), t'[i]? = some p → vs[i]? = some (a.tmps.getD p.1 undef)) → ∀ i, Rel G' (look t' i) (a.tmps.getD i undef)
  | [], _, _, _, _, _ => by simp [look, Rel]
  | (j, x) :: r, [], _, h, _, _ => by simp [RelL] at h
  | (j, x) :: r, v :: vs, a, h, hv, i => by
    simp only [List.map_cons, RelL] at h
    simp only [look]
    split
    · rename_i e
      have := hv 0 (j, x) rfl
      simp only [List.getElem?_cons_zero, Option.some.injEq] at this
      rw [e, ← this]; exact h.1
    · exact slots_of_list a h.2 (fun i p hp => by have := hv (i + 1) p (by simpa using hp); simpa using this) i

theorem rel_slots {N : Nat} {G : Gh} {t : Slots} {h : AHeap} {a : Act} {w : World} (st : StRel N G t h a w) : ∀ (t' : Slots), RelL G (t'.map fun p => look t p.1) (t'.map fun p => a.tmps.getD p.1 undef)
  | [] => by simp [RelL]
  | p :: r => by simp only [List.map_cons, RelL]; exact ⟨st.slots p.1, rel_slots st r⟩

theorem weak_of_list {N : Nat} {h0 h h' : AHeap} {t t' : Slots} (H : WeakL h0 (t'.map fun p => look t p.1) h (t'.map (·.2)) h') : Weak N h0 t h t' h' := by
  intro G0 G a w ha hl st
  obtain ⟨G', hl', hh, hr, hk⟩ := H G0 G w _ ha hl st.heap (rel_slots st t')
  exact ⟨G', hl', st.size, let ⟨bs, h1, h2, h3⟩ := st.defers; ⟨bs, h1, fun b hb => hk b (h2 b hb), h3⟩, slots_of_list a hr (fun i p hp => by rw [List.getElem?_map, hp]; rfl), hh⟩

def convT (D : Nat → Prop) (A : AV → AV → Prop) (t : Slots) : Slots → Prop
  | [] => True
  | p :: r => conv D A (look t p.1) p.2 ∧ convT D A t r

theorem convT_list {D : Nat → Prop} {A : AV → AV → Prop} {t : Slots} : ∀ {t' : Slots}, convT D A t t' → convL D A (t'.map fun p => look t p.1) (t'.map (·.2))
  | [], _ => by simp [convL]
  | p :: r, h => by simp only [convT, List.map_cons, convL] at h ⊢; exact ⟨h.1, convT_list h.2⟩

def keptB (F : AHeap) (L L' : List (Nat × Blk)) : List (Nat × Blk) → Prop
  | [] => True
  | p :: r => hp F L p.1 = some p.2 ∧ convB (fun id => hp F L' id ≠ none) noA p.2 p.2 ∧ keptB F L L' r
theorem keptB_mem {F : AHeap} {L L' : List (Nat × Blk)} : ∀ {M : List (Nat × Blk)}, keptB F L L' M → ∀ p ∈ M, hp F L p.1 = some p.2 ∧ convB (fun id => hp F L' id ≠ none) noA p.2 p.2
  | [], _, _, h => by cases h
  | q :: r, h, p, hp => by
    simp only [keptB] at h
    cases hp with
    | head => exact ⟨h.1, h.2.1⟩
    | tail _ hp => exact keptB_mem h.2.2 p hp

/-- Every block of L is one of L' too, or is none of F's. -/
def shed (F : AHeap) (L' : List (Nat × Blk)) : List (Nat × Blk) → Prop
  | [] => True
  | p :: r => (F p.1 = none ∨ p.1 ∈ L'.map (·.1)) ∧ shed F L' r
theorem shed_mem {F : AHeap} {L' : List (Nat × Blk)} : ∀ {M : List (Nat × Blk)}, shed F L' M → ∀ p ∈ M, F p.1 = none ∨ p.1 ∈ L'.map (·.1)
  | [], _, _, h => by cases h
  | q :: r, h, p, hp => by
    simp only [shed] at h
    cases hp with
    | head => exact h.1
    | tail _ hp => exact shed_mem h.2 p hp

theorem weakL_cut {F : AHeap} {L L' : List (Nat × Blk)} {xs ys : List AV} (hx : convL (fun id => hp F L' id ≠ none) noA xs ys) (hb : keptB F L L' L') (hL : shed F L' L) : WeakL F xs (hp F L) ys (hp F L') := by
  refine weak_cut hx ?_ fun id h => hp_some (.inl h)
  intro id k hk
  rcases hp_mem hk with ⟨p, hp', rfl, rfl⟩ | ⟨h1, h2⟩
  · have := keptB_mem hb p hp'
    exact ⟨this.1, .inr this.2⟩
  · refine ⟨?_, .inl h1⟩
    rw [hp_ne fun p hp' e => ?_]
    · exact h1
    · subst e
      rcases shed_mem hL p hp' with h | h
      · rw [h] at h1; cases h1
      · obtain ⟨q, hq, e⟩ := List.mem_map.1 h
        exact h2 q hq e

theorem weak_cut_hp {N : Nat} {F : AHeap} {L L' : List (Nat × Blk)} {t t' : Slots} (ht : convT (fun id => hp F L' id ≠ none) noA t t') (hb : keptB F L L' L') (hL : shed F L' L) : Weak N F t (hp F L) t' (hp F L') :=
  weak_of_list (weakL_cut (convT_list ht) hb hL)

end Go.AM

/- A row that nobody writes any more becomes a plain list; a nil slice becomes an empty row of the call's own. -/
namespace Go.AM
set_option linter.unusedVariables false
set_option linter.unusedSimpArgs false
open Go Go.RowKit
set_option linter.unusedSectionVars false
variable [Glob]

/-- Pure cells as cells. -/
abbrev pcells (es : List (List PV)) : List (List AV) := es.map fun e => e.map AV.p

theorem flat_pcells (es : List (List PV)) : (pcells es).flatten = es.flatten.map AV.p := by
  induction es with
  | nil => rfl
  | cons e es ih => simp only [pcells, List.map_cons, List.flatten_cons, List.map_append] at ih ⊢; rw [ih]

theorem cells_frozen {M M' : Nat → Nat → Option Value} {G : Gh} (hG : G.M = M) (hm : ∀ b o v, M b o = some v → M' b o = some v) (g : Nat) : ∀ {cs : List PV} {xs : List Value} {o : Nat}, RelL G (cs.map AV.p) xs →
    (∀ (j : Nat) (x : Value), xs[j]? = some x → M' g (o + j) = some x) → PCells M' g o cs
  | [], _, _, _, _ => by simp [PCells]
  | c :: cs, [], _, h, _ => by simp [RelL] at h
  | c :: cs, x :: xs, o, h, hx => by
    simp only [List.map_cons, RelL, Rel] at h
    simp only [PCells]
    refine ⟨⟨x, by simpa using hx 0 x rfl, PRel.mono hm (hG ▸ h.1)⟩, cells_frozen hG hm g h.2 fun j y hy => ?_⟩
    have := hx (j + 1) y (by simpa using hy)
    rwa [show o + (j + 1) = o + 1 + j by omega] at this

theorem els_frozen {M M' : Nat → Nat → Option Value} {G : Gh} (hG : G.M = M) (hm : ∀ b o v, M b o = some v → M' b o = some v) (g sz : Nat) : ∀ {es : List (List PV)} {xs : List Value} {o : Nat}, RelL G (es.flatten.map AV.p) xs → (∀ e ∈ es, e.length = sz) →
    (∀ (j : Nat) (x : Value), xs[j]? = some x → M' g (o + j) = some x) → PEls M' g o sz es
  | [], _, _, _, _, _ => by simp [PEls]
  | e :: es, xs, o, h, hs, hx => by
    have he := hs e (by simp)
    have hl := h.length
    have h1 := RelL.take e.length h
    have h2 := RelL.drop e.length h
    simp only [List.flatten_cons, List.map_append] at h1 h2
    rw [List.take_left' (by simp)] at h1
    rw [List.drop_left' (by simp)] at h2
    simp only [PEls]
    refine ⟨he, cells_frozen hG hm g h1 fun j y hy => ?_, els_frozen hG hm g sz h2 (fun e he => hs e (by simp [he])) fun j y hy => ?_⟩
    · rw [List.getElem?_take] at hy
      split at hy
      · exact hx j y hy
      · cases hy
    · rw [List.getElem?_drop] at hy
      have := hx _ y hy
      rwa [he, show o + (sz + j) = o + sz + j by omega] at this

def frzA (id ver sz : Nat) (es : List (List PV)) (x y : AV) : Prop := ∃ off len, x = .own id ver off len ∧ y = .p (.sl sz ((es.drop off).take len))

open Classical in
theorem weak_freeze {h0 h h' : AHeap} {xs ys : List AV} {id ver sz : Nat} {e : TypeId} {es : List (List PV)} (hk : h id = some (.row ver e sz (pcells es))) (hx : convL (fun i => h' i ≠ none) (frzA id ver sz es) xs ys)
    (hid : h' id = none) (hb : ∀ i k', h' i = some k' → ∃ k, h i = some k ∧ ((h0 i = some k ∧ k' = k) ∨ convB (fun i => h' i ≠ none) (frzA id ver sz es) k k'))
    (hd : ∀ id, h0 id ≠ none → h' id ≠ none) : WeakL h0 xs h ys h' := by
  intro G0 G w vs ⟨w1, ha⟩ hle hr hrel
  obtain ⟨v, cs, hl0, hown, hcs, hsz, hone, hMn⟩ := hr.blk id _ hk
  have hsz' : ∀ e ∈ es, e.length = sz := fun e he => by have := hsz (e.map AV.p) (List.mem_map.2 ⟨e, he, rfl⟩); simpa using this
  rw [flat_pcells] at hcs
  let M' : Nat → Nat → Option Value := fun b o => if v.ownBlock = some b then cs[o]? else G.M b o
  let G' : Gh := { M := M', loc := fun i ver => if h' i ≠ none then G.loc i ver else none, w0 := G.w0, mks := G.mks, out := G.out }
  have hm : ∀ b o v, G.M b o = some v → G'.M b o = some v := fun b o u hu => by
    show M' b o = _
    simp only [M']
    split
    · rename_i e; rw [hMn b e o] at hu; cases hu
    · exact hu
  have hl : ∀ i ver x, h' i ≠ none → G.loc i ver = some x → G'.loc i ver = some x := fun i ver x hd h => by simp only [G']; rw [if_pos hd]; exact h
  have hA : ∀ x y u, frzA id ver sz es x y → Rel G x u → Rel G' y u := by
    rintro x y u ⟨off, len, rfl, rfl⟩ r
    simp only [Rel] at r
    obtain ⟨a, n, c, sz1, a', h1, h2, h3, rfl, h5, h4⟩ := r
    rw [hl0] at h1
    cases h1
    have hn : n = es.length := by
      rcases hown.2 with ⟨e1, e2⟩ | ⟨g, cap, cur, e1, _⟩
      · cases e1; simpa using e2.symm
      · cases e1; simp
    simp only [Rel, PRel]
    refine ⟨a', len, c - off, rfl, by simp; omega, by omega, h5, ?_⟩
    by_cases h0 : 0 < len
    · refine .inr ?_
      have e4 := h4 (.inl h0)
      rcases hown.2 with ⟨e1, _⟩ | ⟨g, cap, cur, e1, _, hg, hcap, _, hcur, htk⟩
      · cases e1; omega
      · cases e1
        simp only [Option.map_some] at e4
        refine ⟨g, off * sz, e4, ?_⟩
        have hE : PEls M' g 0 sz es := els_frozen rfl hm g sz hcs hsz' (fun j x hx => by
          show (if Value.ownBlock _ = some g then cs[0 + j]? else _) = _
          rw [if_pos (show Value.ownBlock _ = some g from rfl)]; simpa using hx)
        have := PEls.take len (PEls.drop off hE)
        simpa using this
    · exact .inl (by rw [show len = 0 by omega]; simp)
  have hle' : G0.Le G' := ⟨fun b o v h => hm _ _ _ (hle.m b o v h), fun i ver x hx => hl i ver x (hd i (ha.dom i ver x hx)) (hle.l i ver x hx), hle.w, hle.k, hle.o⟩
  have hnot : ∀ i k, i ≠ id → h i = some k → ∀ g, cbOf G i k = some g → v.ownBlock ≠ some g := fun i k hi hik g hg => by
    have := hr.sep i id k _ g hi hik hk hg
    simpa [cbOf, hl0] using this
  refine ⟨G', hle', ?_, convL_rel hm hl hA hx hrel, fun _ h => h⟩
  have hne : ∀ i k', h' i = some k' → i ≠ id := fun i k' h e => by rw [e, hid] at h; cases h
  have hMk : ∀ i k, i ≠ id → h i = some k → ∀ g, cbOf G i k = some g → ∀ o, G'.M g o = G.M g o := fun i k hi hik g hg o => by
    show M' g o = _
    simp only [M']
    rw [if_neg (hnot i k hi hik g hg)]
  have key : ∀ i k', h' i = some k' → ∃ k, h i = some k ∧ (BRel G' w i k' ∧ cbOf G' i k' = cbOf G i k) ∧ k'.ver = k.ver := by
    intro i k' hk'
    obtain ⟨k, h1, h2⟩ := hb i k' hk'
    have hd' : h' i ≠ none := by simp [hk']
    refine ⟨k, h1, ?_, by rcases h2 with ⟨_, rfl⟩ | h2; rfl; exact convB_ver h2⟩
    rcases h2 with ⟨h2, rfl⟩ | h2
    · have b0 := ha.blk i k' h2
      have b1 := hr.blk i k' h1
      have hc : convB (fun i => h' i ≠ none) (frzA id ver sz es) k' k' := by
        cases k' with
        | row ver2 e2 sz2 es2 =>
          obtain ⟨x0, xs0, l0, o0, r0, _, _, _⟩ := b0
          refine ⟨rfl, rfl, rfl, ?_⟩
          have hcl := convL_self (fun id ver x h => hd id (ha.dom id ver x h)) r0
          exact convE_self_of (convL_mono (fun _ _ h => h.elim) hcl)
        | mp ver2 es2 =>
          obtain ⟨_, _, _, ⟨_, _, _, _, r0⟩, _⟩ := b0
          exact ⟨rfl, rfl, convL_mono (fun _ _ h => h.elim) (convL_self (fun id ver x h => hd id (ha.dom id ver x h)) r0)⟩
      exact convB_brel hm hl hA rfl hd' hc (hMk i k' (hne i k' hk') h1) b1
    · exact convB_brel hm hl hA rfl hd' h2 (hMk i k (hne i k' hk') h1) (hr.blk i k h1)
  refine ⟨hr.below, ?_, fun i k' hk' => by obtain ⟨k, _, ⟨h2, _⟩, _⟩ := key i k' hk'; exact h2, ?_, ?_, fun i k' v hk' hv => ?_, fun p hp => PCells.mono hm (hr.glb p hp), hr.mks, hr.outs, hr.apt⟩
  rotate_left 3
  · obtain ⟨k, h1, _, h3⟩ := key i k' hk'
    show (if h' i ≠ none then G.loc i v else none) = none
    rw [hr.top i k v h1 (by omega)]; split <;> rfl
  · intro b o u hu
    change M' b o = some u at hu
    simp only [M'] at hu
    split at hu
    · rename_i e
      rcases hown.2 with ⟨rfl, _⟩ | ⟨g, cap, cur, rfl, _, hg, hcap, _, hcur, htk⟩
      · simp [Value.ownBlock] at e
      · simp [Value.ownBlock] at e
        subst e
        refine ⟨?_, hone u (List.mem_of_getElem? hu)⟩
        have := hown.cells (g := g) rfl o u hu
        rwa [show (⟨g, 0, none⟩ : Addr).add o = ⟨g, o, none⟩ from by unfold Addr.add; split <;> simp_all] at this
    · exact hr.imm b o u hu
  · intro i j k l b hij hi hj h1
    obtain ⟨k1, a1, ⟨_, c1⟩, _⟩ := key i k hi
    obtain ⟨l1, a2, ⟨_, c2⟩, _⟩ := key j l hj
    rw [c1] at h1
    rw [c2]
    exact hr.sep i j k1 l1 b hij a1 a2 h1
  · intro i ver x hx
    simp only [G'] at hx
    split at hx
    · assumption
    · cases hx

theorem weakL_freeze {F : AHeap} {L L' : List (Nat × Blk)} {xs ys : List AV} {id ver sz : Nat} {e : TypeId} {es : List (List PV)} (hk : hp F L id = some (.row ver e sz (pcells es)))
    (hx : convL (fun i => hp F L' i ≠ none) (frzA id ver sz es) xs ys) (hid : hp F L' id = none)
    (hb : ∀ p ∈ L', ∃ k, hp F L p.1 = some k ∧ convB (fun i => hp F L' i ≠ none) (frzA id ver sz es) k p.2) (hL : shed F L' L) : WeakL F xs (hp F L) ys (hp F L') := by
  refine weak_freeze hk hx hid ?_ fun id h => hp_some (.inl h)
  intro i k' hk'
  rcases hp_mem hk' with ⟨p, hp', rfl, rfl⟩ | ⟨h1, h2⟩
  · obtain ⟨k, h1, h2⟩ := hb p hp'
    exact ⟨k, h1, .inr h2⟩
  · refine ⟨k', ?_, .inl ⟨h1, rfl⟩⟩
    rw [hp_ne fun p hp' e => ?_]
    · exact h1
    · subst e
      rcases shed_mem hL p hp' with h | h
      · rw [h] at h1; cases h1
      · obtain ⟨q, hq, e⟩ := List.mem_map.1 h
        exact h2 q hq e

/-! ### A nil slice as an empty row -/

def nilA (id : Nat) (x y : AV) : Prop := x = .p (.v (.slice none 0 0)) ∧ y = .own id 0 0 0

theorem weak_adopt {h0 h h' : AHeap} {xs ys : List AV} {id sz : Nat} {e : TypeId} (hn : h id = none) (hi : h' id = some (.row 0 e sz [])) (hx : convL (fun i => h i ≠ none) (nilA id) xs ys)
    (hb : ∀ i k', i ≠ id → h' i = some k' → ∃ k, h i = some k ∧ (k' = k ∨ convB (fun i => h i ≠ none) (nilA id) k k'))
    (hd : ∀ i, h i ≠ none → h' i ≠ none) : WeakL h0 xs h ys h' := by
  intro G0 G w vs _ hle hr hrel
  let G' : Gh := { M := G.M, loc := fun i ver => if i = id ∧ ver = 0 then some (.slice none 0 0, sz) else G.loc i ver, w0 := G.w0, mks := G.mks, out := G.out }
  have hnot : ∀ i ver x, G.loc i ver = some x → i ≠ id := fun i ver x h e => hr.dom i ver x h (e ▸ hn)
  have hl : ∀ i ver x, G.loc i ver = some x → G'.loc i ver = some x := fun i ver x h => by
    show (if i = id ∧ ver = 0 then _ else _) = _
    rw [if_neg (fun e => hnot i ver x h e.1)]; exact h
  have hm : ∀ b o v, G.M b o = some v → G'.M b o = some v := fun _ _ _ h => h
  have hA : ∀ x y u, nilA id x y → Rel G x u → Rel G' y u := by
    rintro x y u ⟨rfl, rfl⟩ r
    simp only [Rel, PRel] at r
    subst r
    simp only [Rel]
    refine ⟨none, 0, 0, sz, none, ?_, by omega, by omega, rfl, fun _ => rfl, fun _ => rfl⟩
    show (if id = id ∧ 0 = 0 then _ else _) = _
    simp
  have hle1 : G.Le G' := ⟨hm, hl, rfl, fun _ h => h, rfl⟩
  refine ⟨G', hle.trans hle1, ?_, convL_rel hm (fun i v x _ h => hl i v x h) hA hx hrel, fun _ h => h⟩
  have key : ∀ i k', i ≠ id → h' i = some k' → ∃ k, h i = some k ∧ (BRel G' w i k' ∧ cbOf G' i k' = cbOf G i k) ∧ k'.ver = k.ver := by
    intro i k' hi hk'
    obtain ⟨k, h1, h2⟩ := hb i k' hi hk'
    refine ⟨k, h1, ?_, by rcases h2 with rfl | h2; rfl; exact convB_ver h2⟩
    have hd' : h i ≠ none := by simp [h1]
    rcases h2 with rfl | h2
    · have b1 := hr.blk i k' h1
      have hc : convB (fun i => h i ≠ none) (nilA id) k' k' := by
        cases k' with
        | row ver2 e2 sz2 es2 =>
          obtain ⟨x0, xs0, l0, o0, r0, _, _, _⟩ := b1
          exact ⟨rfl, rfl, rfl, convE_self_of (convL_mono (fun _ _ h => h.elim) (convL_self (fun id ver x h => hr.dom id ver x h) r0))⟩
        | mp ver2 es2 =>
          obtain ⟨_, _, _, ⟨_, _, _, _, r0⟩, _⟩ := b1
          exact ⟨rfl, rfl, convL_mono (fun _ _ h => h.elim) (convL_self (fun id ver x h => hr.dom id ver x h) r0)⟩
      exact convB_brel hm (fun i v x _ h => hl i v x h) hA rfl hd' hc (fun _ _ _ => rfl) b1
    · exact convB_brel hm (fun i v x _ h => hl i v x h) hA rfl hd' h2 (fun _ _ _ => rfl) (hr.blk i k h1)
  have hloc : G'.loc id 0 = some (.slice none 0 0, sz) := by
    show (if id = id ∧ 0 = 0 then _ else _) = _
    simp
  refine ⟨hr.below, hr.imm, fun i k' hk' => ?_, ?_, ?_, fun i k' v hk' hv => ?_, hr.glb, hr.mks, hr.outs, hr.apt⟩
  rotate_left 3
  · show (if i = id ∧ v = 0 then some (Value.slice none 0 0, sz) else G.loc i v) = none
    by_cases e1 : i = id
    · rw [if_neg (by omega)]
      cases hg : G.loc i v with
      | none => rfl
      | some x => exact absurd e1 (hnot i v x hg)
    · rw [if_neg (fun e => e1 e.1)]
      obtain ⟨k, h1, _, h3⟩ := key i k' e1 hk'
      exact hr.top i k v h1 (by omega)
  · by_cases e1 : i = id
    · subst e1
      rw [hi] at hk'
      cases hk'
      exact ⟨_, [], hloc, World.ownsRow_nil w _ e sz, by simp [RelL], by simp, by simp, by simp [Value.ownBlock]⟩
    · obtain ⟨k, _, ⟨h2, _⟩, _⟩ := key i k' e1 hk'; exact h2
  · intro i j k l b hij hi' hj h1
    by_cases e1 : i = id
    · subst e1
      rw [hi] at hi'
      cases hi'
      simp [cbOf, hloc, Value.ownBlock] at h1
    · obtain ⟨k1, a1, ⟨_, c1⟩, _⟩ := key i k e1 hi'
      rw [c1] at h1
      by_cases e2 : j = id
      · subst e2
        rw [hi] at hj
        cases hj
        simp [cbOf, hloc, Value.ownBlock]
      · obtain ⟨l1, a2, ⟨_, c2⟩, _⟩ := key j l e2 hj
        rw [c2]
        exact hr.sep i j k1 l1 b hij a1 a2 h1
  · intro i ver x hx
    by_cases e1 : i = id
    · subst e1; rw [hi]; simp
    · refine hd i ?_
      have : G.loc i ver = some x := by
        have : (if i = id ∧ ver = 0 then some (Value.slice none 0 0, sz) else G.loc i ver) = some x := hx
        rwa [if_neg (fun e => e1 e.1)] at this
      exact hr.dom i ver x this

end Go.AM

/- What an operation does to the abstract state: loads, stores, new blocks. -/
namespace Go.AM
set_option linter.unusedVariables false
set_option linter.unusedSimpArgs false
open Go Go.RowKit
set_option linter.unusedSectionVars false
variable [Glob]

theorem HRel.upd {G G' : Gh} {h : AHeap} {w w' : World} {id : Nat} {k : Blk} (H : HRel G h w) (hle : G.Le G') (hM : G'.M = G.M) (hloc : ∀ i ver x, G'.loc i ver = some x → G.loc i ver = some x ∨ i = id)
    {row : Option Nat} (hmk : G'.mks = G.mks) (hg : w.grownBy w' row) (hrow : ∀ g, row = some g → offG G g ∧ G.w0.heap.size ≤ g ∧ (∀ o, G.M g o = none) ∧ ∀ i l, i ≠ id → h i = some l → cbOf G i l ≠ some g)
    (hk : BRel G' w' id k) (hsep : ∀ g, cbOf G' id k = some g → row = some g ∨ w.heap.size ≤ g) (htop : ∀ v, k.ver < v → G'.loc id v = none) : HRel G' (hp h [(id, k)]) w' := by
  have hcb : ∀ i l, h i = some l → cbOf G' i l = cbOf G i l ∧ ∀ g, cbOf G i l = some g → g < w.heap.size := by
    intro i l hl
    have b := H.blk i l hl
    cases l with
    | row ver e sz es =>
      obtain ⟨v, xs, l1, o1, _⟩ := b
      have l2 := hle.l _ _ _ l1
      refine ⟨by simp [cbOf, l1, l2], fun g hg => ?_⟩
      simp [cbOf, l1] at hg
      exact (o1.lt g hg).2
    | mp ver es =>
      obtain ⟨b, l1, o1, ⟨ents, clock, h3, _⟩, _⟩ := b
      have l2 := hle.l _ _ _ l1
      refine ⟨by simp [cbOf, l1, l2], fun g hg => ?_⟩
      simp [cbOf, l1, mapBlock] at hg
      subst hg
      exact (Array.getElem?_eq_some_iff.1 h3).1
  have hbase : G.w0.heap.size ≤ w.heap.size := H.below.size
  refine ⟨?_, ?_, ?_, ?_, ?_, fun i l v hl hv => ?_, by rw [hM]; exact H.glb, fun b hb => ?_, fun p hp' => ?_, fun b hb => by rw [hle.o]; rw [hmk] at hb; exact H.apt b hb⟩
  rotate_left 6
  · rw [hmk] at hb
    obtain ⟨m1, m2⟩ := H.mks b hb
    refine ⟨by rw [hle.w]; exact m1, ?_⟩
    rw [hg.block b (Array.getElem?_eq_some_iff.1 m2).1 fun e => (hrow b e.symm).1.1 b hb rfl]
    exact m2
  · rw [hle.o] at hp'
    obtain ⟨m1, m2, m3⟩ := H.outs p hp'
    refine ⟨by rw [hle.w]; exact m1, ?_, m3⟩
    rw [hg.block p.1 (Array.getElem?_eq_some_iff.1 m2).1 fun e => (hrow p.1 e.symm).1.2 p hp' rfl]
    exact m2
  rotate_left 5
  · simp only [hp] at hl
    by_cases e : i = id
    · rw [if_pos e] at hl; cases hl; rw [e]; exact htop v hv
    · rw [if_neg e] at hl
      cases hx : G'.loc i v with
      | none => rfl
      | some x =>
        rcases hloc i v x hx with h1 | h1
        · rw [H.top i l v hl hv] at h1; cases h1
        · exact absurd h1 e
  · rw [hle.w]; exact H.below.grown hg hbase fun g hr => (hrow g hr).2.1
  · intro b o v hv
    rw [hM] at hv
    obtain ⟨h1, h2⟩ := H.imm b o v hv
    refine ⟨?_, h2⟩
    have hb : w'.heap[b]? = w.heap[b]? := hg.block b (World.block_lt_of_cell? w _ h1) fun e => by have := (hrow b e.symm).2.2.1 o; rw [hv] at this; cases this
    rw [World.cell?_of_block (w := w) (a := ⟨b, o, none⟩) hb]; exact h1
  · intro i l hl
    simp only [hp] at hl
    by_cases e : i = id
    · rw [if_pos e] at hl; cases hl; rw [e]; exact hk
    · rw [if_neg e] at hl
      have b := H.blk i l hl
      cases l with
      | row ver ee sz es =>
        obtain ⟨v, xs, l1, o1, r1, s1, c1, m1⟩ := b
        refine ⟨v, xs, hle.l _ _ _ l1, ?_, RelL.mono hle r1, s1, c1, ?_⟩
        · rw [hle.w]
          refine o1.kept hg ?_
          cases hv : v.ownBlock with
          | none => exact .inl rfl
          | some g => exact .inr fun er => (hrow g er.symm).2.2.2 i _ e hl (by simp [cbOf, l1, hv])
        · rw [hM]; exact m1
      | mp ver es =>
        obtain ⟨b, l1, o1, ⟨ents, clock, h3, h4, h5⟩, m1⟩ := b
        refine ⟨b, hle.l _ _ _ l1, by rw [hle.w]; exact o1, ⟨ents, clock, ?_, h4, RelL.mono hle h5⟩, by rw [hM]; exact m1⟩
        rw [hg.block b (Array.getElem?_eq_some_iff.1 h3).1 fun er => (hrow b er.symm).2.2.2 i _ e hl (by simp [cbOf, l1, mapBlock])]
        exact h3
  · intro i j k1 l b hij hi hj h1
    simp only [hp] at hi hj
    by_cases e1 : i = id
    · rw [if_pos e1] at hi; cases hi
      rw [if_neg (fun e => hij (e1.trans e.symm))] at hj
      obtain ⟨c2, lt2⟩ := hcb j l hj
      rw [c2]
      rw [e1] at h1
      intro h2
      rcases hsep b h1 with hr | hr
      · exact (hrow b hr).2.2.2 j l (fun e => hij (e1.trans e.symm)) hj h2
      · have := lt2 b h2; omega
    · rw [if_neg e1] at hi
      obtain ⟨c1, lt1⟩ := hcb i k1 hi
      rw [c1] at h1
      by_cases e2 : j = id
      · rw [if_pos e2] at hj; cases hj
        rw [e2]
        intro h2
        rcases hsep b h2 with hr | hr
        · exact (hrow b hr).2.2.2 i k1 e1 hi h1
        · have := lt1 b h1; omega
      · rw [if_neg e2] at hj
        rw [(hcb j l hj).1]
        exact H.sep i j k1 l b hij hi hj h1
  · intro i ver x hx
    rcases hloc i ver x hx with h1 | h1
    · exact hp_some (.inl (H.dom i ver x h1))
    · exact hp_some (.inr ⟨(id, k), by simp, h1.symm⟩)

end Go.AM

/- Cells read and written. -/
namespace Go.AM
set_option linter.unusedVariables false
set_option linter.unusedSimpArgs false
open Go Go.RowKit
set_option linter.unusedSectionVars false
variable [Glob]

def isAggD : TypeDesc → Bool
  | .struct _ | .array .. => true
  | _ => false
/-- Is it a struct or an array; how many cells has it. -/
def tAgg (P : Program) (t : TypeId) : Option (Bool × Nat) := (P.underlying t).bind fun d => (P.info? t).map fun i => (isAggD d, i.size)

def splice {α : Type} (c : List α) (j : Nat) (x : List α) : List α := c.take j ++ (x ++ c.drop (j + x.length))

theorem flatten_drop {α : Type} {sz : Nat} : ∀ {es : List (List α)} (i : Nat), (∀ e ∈ es, e.length = sz) → es.flatten.drop (i * sz) = (es.drop i).flatten
  | [], _, _ => by simp
  | e :: es, 0, _ => by simp
  | e :: es, i + 1, h => by
    have he := h e (by simp)
    rw [List.flatten_cons, Nat.succ_mul, List.drop_succ_cons, ← flatten_drop i fun x hx => h x (by simp [hx])]
    rw [show i * sz + sz = e.length + i * sz by omega, List.drop_append]
    simp

theorem flatten_at {α : Type} {sz : Nat} {es : List (List α)} {i : Nat} {c : List α} (h : ∀ e ∈ es, e.length = sz) (hi : es[i]? = some c) (j n : Nat) (hj : j + n ≤ c.length) :
    (es.flatten.drop (i * sz + j)).take n = (c.drop j).take n := by
  rw [← List.drop_drop, flatten_drop i h]
  have : es.drop i = c :: es.drop (i + 1) := by
    obtain ⟨hlt, rfl⟩ := List.getElem?_eq_some_iff.1 hi
    exact List.drop_eq_getElem_cons hlt
  rw [this, List.flatten_cons, List.drop_append_of_le_length (by omega), List.take_append_of_le_length (by simp; omega)]

theorem flatten_len {α : Type} {sz : Nat} : ∀ {es : List (List α)}, (∀ e ∈ es, e.length = sz) → es.flatten.length = es.length * sz
  | [], _ => by simp
  | e :: es, h => by
    simp only [List.flatten_cons, List.length_append, List.length_cons, Nat.succ_mul]
    rw [h e (by simp), flatten_len fun x hx => h x (by simp [hx])]; omega

theorem flatten_set {α : Type} {sz : Nat} : ∀ {es : List (List α)} {i : Nat} {c d : List α}, (∀ e ∈ es, e.length = sz) → es[i]? = some c → d.length = sz → (es.set i d).flatten = splice es.flatten (i * sz) d
  | [], _, _, _, _, h, _ => by simp at h
  | e :: es, 0, c, d, h, hi, hd => by
    have he := h e (by simp)
    simp only [List.set_cons_zero, List.flatten_cons, splice, Nat.zero_mul, List.take_zero, List.nil_append, Nat.zero_add]
    rw [List.drop_append, hd, ← he]; simp
  | e :: es, i + 1, c, d, h, hi, hd => by
    have he := h e (by simp)
    have ih := flatten_set (es := es) (i := i) (c := c) (fun x hx => h x (by simp [hx])) (by simpa using hi) hd
    simp only [List.set_cons_succ, List.flatten_cons, ih, splice]
    rw [Nat.succ_mul, List.take_append, List.drop_append]
    simp only [he]
    rw [List.take_of_length_le (l := e) (by omega), List.drop_eq_nil_of_le (as := e) (by omega)]
    simp only [List.nil_append, List.append_assoc]
    congr 2
    · congr 1; omega
    · congr 2; omega

theorem splice_splice {α : Type} (L c : List α) (i j : Nat) (x : List α) (hc : (L.drop i).take c.length = c) (hj : j + x.length ≤ c.length) (hi : i + c.length ≤ L.length) :
    splice L i (splice c j x) = splice L (i + j) x := by
  have hl : (splice c j x).length = c.length := by simp only [splice, List.length_append, List.length_take, List.length_drop]; omega
  have hL : L = L.take i ++ (c ++ L.drop (i + c.length)) := by
    rw [← List.drop_drop]
    conv => lhs; rw [← List.take_append_drop i L]
    congr 1
    conv => lhs; rw [← List.take_append_drop c.length (L.drop i), hc]
  have hti : (L.take i).length = i := by rw [List.length_take]; omega
  simp only [splice] at hl ⊢
  rw [hl]
  conv => rhs; rw [hL]
  rw [List.take_append, List.take_append, List.drop_append, List.drop_append, hti]
  rw [List.take_of_length_le (l := L.take i) (by omega), List.drop_eq_nil_of_le (as := L.take i) (by omega)]
  rw [show i + j - i = j by omega, show i + j + x.length - i = j + x.length by omega]
  rw [show j - c.length = 0 by omega, show j + x.length - c.length = 0 by omega]
  simp [List.append_assoc]

/-- The cells behind an address. -/
def acells (h : AHeap) (n : Nat) : AV → Option (List AV)
  | .ptr id ver i j =>
    match h id with
    | some (.row ver' _ _ es) => if ver' = ver then (match es[i]? with | some c => if j + n ≤ c.length then some ((c.drop j).take n) else none | none => none) else none
    | _ => none
  | .iptr cs => if n ≤ cs.length then some ((cs.take n).map AV.p) else none
  | _ => none

theorem ptr_add (g o j : Nat) : (⟨g, o, none⟩ : Addr).add j = ⟨g, o + j, none⟩ := by unfold Addr.add; split <;> simp_all

theorem PCells.vals {M : Nat → Nat → Option Value} {b : Nat} : ∀ {cs : List PV} {o : Nat}, PCells M b o cs → ∃ vs : List Value, vs.length = cs.length ∧ (∀ (j : Nat) (v : Value), vs[j]? = some v → M b (o + j) = some v) ∧
    ∀ {G : Gh}, G.M = M → RelL G (cs.map AV.p) vs
  | [], _, _ => ⟨[], rfl, by simp, fun _ => by simp [RelL]⟩
  | c :: cs, o, h => by
    simp only [PCells] at h
    obtain ⟨⟨y, h1, h2⟩, h3⟩ := h
    obtain ⟨vs, l, g, r⟩ := PCells.vals h3
    refine ⟨y :: vs, by simp [l], fun j v hv => ?_, fun hG => ?_⟩
    · cases j with
      | zero => simp at hv; subst hv; simpa using h1
      | succ j => have := g j v (by simpa using hv); rwa [show o + 1 + j = o + (j + 1) by omega] at this
    · simp only [List.map_cons, RelL, Rel]; exact ⟨hG ▸ h2, r hG⟩

theorem PCells.take {M : Nat → Nat → Option Value} {b : Nat} : ∀ {cs : List PV} {o : Nat} (n : Nat), PCells M b o cs → PCells M b o (cs.take n)
  | [], _, _, _ => by simp [PCells]
  | c :: cs, o, 0, h => by simp [PCells]
  | c :: cs, o, n + 1, h => by simp only [List.take_succ_cons, PCells] at h ⊢; exact ⟨h.1, PCells.take n h.2⟩

theorem acells_rel {G : Gh} {h : AHeap} {w : World} (H : HRel G h w) {n : Nat} {x : AV} {cs : List AV} (hc : acells h n x = some cs) {y : Value} (r : Rel G x y) :
    ∃ g o vs, y = .pointer (some ⟨g, o, none⟩) ∧ vs.length = n ∧ (∀ (j : Nat) (v : Value), vs[j]? = some v → w.cell? ⟨g, o + j, none⟩ = some v) ∧ RelL G cs vs := by
  cases x with
  | ptr id ver i j =>
    simp only [Rel] at r
    obtain ⟨g, n0, c0, sz, hl, rfl⟩ := r
    simp only [acells] at hc
    cases hk : h id with
    | none => rw [hk] at hc; cases hc
    | some k =>
      cases k with
      | row ver' e sz' es =>
        rw [hk] at hc
        simp only at hc
        by_cases hv : ver' = ver
        · rw [if_pos hv] at hc
          subst hv
          cases hi : es[i]? with
          | none => rw [hi] at hc; cases hc
          | some c =>
            rw [hi] at hc
            simp only at hc
            by_cases hj : j + n ≤ c.length
            · rw [if_pos hj] at hc
              cases hc
              obtain ⟨v, xs, l1, o1, r1, s1, _, _⟩ := H.blk id _ hk
              rw [hl] at l1
              cases l1
              have hxl := r1.length
              rw [flatten_len s1] at hxl
              have hcl := s1 c (List.mem_of_getElem? hi)
              have hil : i < es.length := (List.getElem?_eq_some_iff.1 hi).1
              have hmul : i * sz + sz ≤ es.length * sz := by rw [← Nat.succ_mul]; exact Nat.mul_le_mul_right _ hil
              have hn0 : n0 = es.length := by rcases o1.2 with ⟨e1, _⟩ | ⟨_, _, _, e1, _⟩ <;> cases e1; rfl
              subst hn0
              refine ⟨g, i * sz + j, (xs.drop (i * sz + j)).take n, rfl, ?_, fun k v hv => ?_, ?_⟩
              · rw [List.length_take, List.length_drop]; omega
              · rw [List.getElem?_take] at hv
                split at hv
                · rw [List.getElem?_drop] at hv
                  rw [World.ownsRow.cellAt o1 _ (by omega)]; exact hv
                · cases hv
              · rw [← flatten_at s1 hi j n hj]; exact RelL.take n (RelL.drop _ r1)
            · rw [if_neg hj] at hc; cases hc
        · rw [if_neg hv] at hc; cases hc
      | mp => rw [hk] at hc; cases hc
  | iptr ps =>
    simp only [Rel] at r
    obtain ⟨b, o, rfl, hp⟩ := r
    simp only [acells] at hc
    split at hc
    · rename_i hn
      cases hc
      obtain ⟨vs, l, gm, rr⟩ := PCells.vals (PCells.take n hp)
      exact ⟨b, o, vs, rfl, by rw [l, List.length_take]; omega, fun j v hv => (H.imm _ _ _ (gm j v hv)).1, rr rfl⟩
    · cases hc
  | p x => simp [acells] at hc
  | own => simp [acells] at hc
  | sub => simp [acells] at hc
  | agg => simp [acells] at hc
  | tup => simp [acells] at hc
  | fn => simp [acells] at hc
  | ifc => simp [acells] at hc
  | mref => simp [acells] at hc
  | cap0 => simp [acells] at hc
  | junk => simp [acells] at hc

/-- What a load of a type yields. -/
def aload (P : Program) (h : AHeap) (t : TypeId) (x : AV) : Option AV :=
  match tAgg P t with
  | some (true, n) => (acells h n x).map AV.agg
  | some (false, _) => (acells h 1 x).bind fun cs => cs.head?
  | none => none

theorem run_isAgg {P : Program} {t : TypeId} {ag : Bool} {n : Nat} (h : tAgg P t = some (ag, n)) (w : World) : (isAgg t).run P w = .ok ag w ∧ (sizeOf t).run P w = .ok n w := by
  unfold tAgg at h
  cases hd : P.underlying t with
  | none => simp [hd] at h
  | some d =>
    cases hi : P.info? t with
    | none => simp [hd, hi] at h
    | some i =>
      simp [hd, hi] at h
      obtain ⟨rfl, rfl⟩ := h
      refine ⟨?_, by simp [sizeOf, typeInfo, hi]⟩
      unfold isAgg
      simp only [Sem.run_bind, run_underlying hd, Result.andThen_ok]
      cases d <;> rfl

theorem aload_rel {P : Program} {G : Gh} {h : AHeap} {w : World} (H : HRel G h w) {t : TypeId} {x v : AV} (hl : aload P h t x = some v) {y : Value} (r : Rel G x y) :
    ∃ u, (Instr.loadAt t y).run P w = .ok u w ∧ Rel G v u := by
  unfold aload at hl
  cases ht : tAgg P t with
  | none => rw [ht] at hl; cases hl
  | some q =>
    obtain ⟨ag, n⟩ := q
    obtain ⟨ha, hs⟩ := run_isAgg ht w
    rw [ht] at hl
    cases ag with
    | true =>
      simp only [Option.map_eq_some_iff] at hl
      obtain ⟨cs, hc, rfl⟩ := hl
      obtain ⟨g, o, vs, rfl, hlen, hcell, hr⟩ := acells_rel H hc r
      have := run_loadCells_list (P := P) w ⟨g, o, none⟩ vs (fun j v hv => by rw [ptr_add]; exact hcell j v hv)
      rw [hlen] at this
      refine ⟨.agg vs.toArray, ?_, by simp only [Rel]; exact ⟨_, rfl, by simpa using hr⟩⟩
      simp [Instr.loadAt, Instr.sureAddr, loadVar, ha, hs, this]
    | false =>
      simp only [Option.bind_eq_some_iff] at hl
      obtain ⟨cs, hc, hh⟩ := hl
      obtain ⟨g, o, vs, rfl, hlen, hcell, hr⟩ := acells_rel H hc r
      cases vs with
      | nil => simp at hlen
      | cons u vs =>
        cases cs with
        | nil => simp at hh
        | cons c cs =>
          simp at hh
          subst hh
          simp only [RelL] at hr
          refine ⟨u, ?_, hr.1⟩
          have := hcell 0 u rfl
          simp only [Nat.add_zero] at this
          simp [Instr.loadAt, Instr.sureAddr, loadVar, ha, this]

end Go.AM

/- Stores, new blocks, rows that grow. -/
namespace Go.AM
set_option linter.unusedVariables false
set_option linter.unusedSimpArgs false
open Go Go.RowKit
set_option linter.unusedSectionVars false
variable [Glob]

def cellsOf : AV → List AV
  | .agg cs => cs
  | x => [x]

theorem cellsOf_rel {G : Gh} {x : AV} {y : Value} (h1 : ∀ c ∈ cellsOf x, c.one = true) (r : Rel G x y) : RelL G (cellsOf x) y.cells.toList := by
  cases x with
  | agg cs =>
    simp only [Rel] at r
    obtain ⟨vs, rfl, h⟩ := r
    simpa [cellsOf, Value.cells] using h
  | _ =>
    have hy := AV.one_rel (h1 _ (by simp [cellsOf])) r
    have : y.cells = #[y] := by cases y <;> simp [Value.oneCell'] at hy <;> rfl
    rw [this]
    simp only [cellsOf, RelL]
    exact ⟨r, trivial⟩

theorem RelL.one {G : Gh} : ∀ {xs : List AV} {ys : List Value}, RelL G xs ys → (∀ x ∈ xs, x.one = true) → ∀ y ∈ ys, y.oneCell' = true
  | [], [], _, _, _, h => by cases h
  | x :: xs, y :: ys, r, h, z, hz => by
    simp only [RelL] at r
    cases hz with
    | head => exact AV.one_rel (h x (by simp)) r.1
    | tail _ hz => exact RelL.one r.2 (fun x hx => h x (by simp [hx])) z hz
  | [], _ :: _, r, _, _, _ => by simp [RelL] at r
  | _ :: _, [], r, _, _, _ => by simp [RelL] at r

theorem ownsRow_splice {w : World} {base g n cap sz : Nat} {e : TypeId} {xs : List Value} (h : w.ownsRow base e sz (.slice (some ⟨g, 0, none⟩) n cap) n xs) (o : Nat) (vs : List Value) (ho : o + vs.length ≤ n * sz) :
    ∃ cur : Array Value, w.heap[g]? = some (.cells cur e (0, 0)) ∧ n * sz ≤ cur.size ∧
      (w.setRow g (cur.toList.take o ++ vs ++ cur.toList.drop (o + vs.length)).toArray).ownsRow base e sz (.slice (some ⟨g, 0, none⟩) n cap) n (splice xs o vs) ∧
      w.grownBy (w.setRow g (cur.toList.take o ++ vs ++ cur.toList.drop (o + vs.length)).toArray) (some g) := by
  obtain ⟨hl, h2⟩ := h
  rcases h2 with ⟨h', _⟩ | ⟨g', cap', cur, h', hb, hg, hnc, hcm, hcs, htake⟩
  · simp at h'
  · simp only [Value.slice.injEq, Option.some.injEq, Addr.mk.injEq, and_true, true_and] at h'
    obtain ⟨rfl, rfl⟩ := h'
    have hcur : n * sz ≤ cur.size := by rw [hcs]; exact Nat.mul_le_mul_right _ hnc
    refine ⟨cur, hg, hcur, ⟨?_, .inr ⟨g, cap, _, rfl, hb, setRow_heap w g cur _ e _ hg, hnc, hcm, ?_, ?_⟩⟩, ⟨rfl, rfl, rfl, by simp, fun k _ hk => setRow_other w g k _ (fun e => hk (by simp [e]))⟩⟩
    · simp only [splice, List.length_append, List.length_take, List.length_drop]; omega
    · simp only [List.size_toArray, List.length_append, List.length_take, List.length_drop, Array.length_toList]; omega
    · simp only [splice]
      rw [← htake]
      have hlc : cur.toList.length = cur.size := Array.length_toList
      generalize cur.toList = L at *
      have h1 : (L.take o).length = o := by rw [List.length_take]; omega
      rw [List.append_assoc, List.take_append, h1, List.take_of_length_le (l := L.take o) (by omega), List.take_append, List.take_of_length_le (l := vs) (by omega), List.take_take, List.drop_take]
      rw [Nat.min_eq_left (by omega)]
      congr 3
      omega

/-- A store of a type. -/
def astore (P : Program) (h : AHeap) (t : TypeId) (x v : AV) : Option (Nat × Blk × Blk) :=
  match tAgg P t with
  | some (_, n) =>
    match x with
    | .ptr id ver i j =>
      match h id with
      | some (.row ver' e sz es) =>
        if ver' = ver then
          match es[i]? with
          | some c => if (cellsOf v).length = n ∧ j + n ≤ c.length ∧ (cellsOf v).all AV.one = true then some (id, .row ver' e sz es, .row ver' e sz (es.set i (splice c j (cellsOf v)))) else none
          | none => none
        else none
      | _ => none
    | _ => none
  | none => none

theorem astore_rel {P : Program} {G : Gh} {h : AHeap} {w : World} (H : HRel G h w) {t : TypeId} {x v : AV} {id : Nat} {k k' : Blk} (hs : astore P h t x v = some (id, k, k')) {y u : Value} (r : Rel G x y) (ru : Rel G v u) :
    h id = some k ∧ ∃ w', (Instr.storeAt t y u).run P w = .ok () w' ∧ HRel G (hp h [(id, k')]) w' := by
  unfold astore at hs
  cases ht : tAgg P t with
  | none => rw [ht] at hs; cases hs
  | some q =>
    obtain ⟨ag, n⟩ := q
    rw [ht] at hs
    simp only at hs
    cases x with
    | ptr id' ver i j =>
      simp only at hs
      cases hk : h id' with
      | none => rw [hk] at hs; cases hs
      | some kk =>
        cases kk with
        | mp => rw [hk] at hs; cases hs
        | row ver' e sz es =>
          rw [hk] at hs
          simp only at hs
          by_cases hv : ver' = ver
          · rw [if_pos hv] at hs
            subst hv
            cases hi : es[i]? with
            | none => rw [hi] at hs; cases hs
            | some c =>
              rw [hi] at hs
              simp only at hs
              by_cases hc : (cellsOf v).length = n ∧ j + n ≤ c.length ∧ (cellsOf v).all AV.one = true
              · rw [if_pos hc] at hs
                cases hs
                obtain ⟨c1, c2, c3⟩ := hc
                have hone : ∀ c ∈ cellsOf v, c.one = true := by simpa using c3
                have rl := cellsOf_rel hone ru
                have hul := rl.length
                simp only [Rel] at r
                obtain ⟨g, n0, cap, sz', hl, rfl⟩ := r
                obtain ⟨v1, xs, l1, o1, r1, s1, on1, m1⟩ := H.blk id _ hk
                rw [hl] at l1
                cases l1
                have hn0 : n0 = es.length := by rcases o1.2 with ⟨e1, _⟩ | ⟨_, _, _, e1, _⟩ <;> cases e1; rfl
                subst hn0
                have hcl := s1 c (List.mem_of_getElem? hi)
                have hil : i < es.length := (List.getElem?_eq_some_iff.1 hi).1
                have hmul : i * sz + sz ≤ es.length * sz := by rw [← Nat.succ_mul]; exact Nat.mul_le_mul_right _ hil
                obtain ⟨cur, hg, hcur, how, hgr⟩ := ownsRow_splice o1 (i * sz + j) u.cells.toList (by omega)
                obtain ⟨_, hsz⟩ := run_isAgg ht w
                have hst := run_storeCells_at P g (i * sz + j) e u.cells.toList 0 cur w hg (by omega) (RelL.one rl hone)
                simp only [Nat.add_zero] at hst
                have hsize : u.cells.size = n := by rw [← Array.length_toList]; omega
                have key : (Instr.storeAt t (.pointer (some ⟨g, i * sz + j, none⟩)) u).run P w = (storeCells ⟨g, i * sz + j, none⟩ u.cells.toList).run P w := by
                  simp [Instr.storeAt, Instr.sureAddr, storeVar, hsz, hsize]
                refine ⟨hk, _, key.trans hst, ?_⟩
                · refine HRel.upd H (.refl G) rfl (fun i ver x h => .inl h) rfl hgr ?_ ?_ ?_ (fun v hv => H.top id _ v hk hv)
                  · intro g' e'
                    cases e'
                    refine ⟨H.mk_ne hg rfl, ?_, m1 g rfl, fun i2 l hne hl2 h2 => ?_⟩
                    · rcases o1.2 with ⟨e1, _⟩ | ⟨_, _, _, e1, hb, _⟩ <;> cases e1; exact hb
                    · exact H.sep id i2 _ l g (fun e => hne e.symm) hk hl2 (by simp [cbOf, hl, Value.ownBlock]) h2
                  · have hlen : (splice c j (cellsOf v)).length = sz := by simp only [splice, List.length_append, List.length_take, List.length_drop]; omega
                    refine ⟨_, _, hl, by rw [List.length_set]; exact how, ?_, ?_, ?_, m1⟩
                    · rw [flatten_set s1 hi hlen]
                      have hfl := flatten_len s1
                      have hcc : (es.flatten.drop (i * sz)).take c.length = c := by
                        have := flatten_at s1 hi 0 c.length (by omega)
                        simpa using this
                      rw [splice_splice es.flatten c (i * sz) j (cellsOf v) hcc (by omega) (by omega)]
                      unfold splice
                      rw [hul]
                      exact RelL.append (RelL.take _ r1) (RelL.append rl (RelL.drop _ r1))
                    · intro z hz
                      rcases List.mem_or_eq_of_mem_set hz with h | rfl
                      · exact s1 z h
                      · exact hlen
                    · intro z hz
                      unfold splice at hz
                      simp only [List.mem_append] at hz
                      rcases hz with h | h | h
                      · exact on1 z (List.mem_of_mem_take h)
                      · exact RelL.one rl hone z h
                      · exact on1 z (List.mem_of_mem_drop h)
                  · intro g' e'
                    simp [cbOf, hl, Value.ownBlock] at e'
                    exact .inl (by rw [e'])
              · rw [if_neg hc] at hs; cases hs
          · rw [if_neg hv] at hs; cases hs
    | _ => simp at hs

/-- A new block with one element. -/
theorem new_one {P : Program} {G : Gh} {h : AHeap} {w : World} (H : HRel G h w) {nm : Nat} (hn : h nm = none) (e : TypeId) {cs : List AV} {u : Value} (hr : RelL G cs u.cells.toList) (hone : ∀ c ∈ cs, c.one = true) :
    ∃ G' w', (newVar e u).run P w = .ok ⟨w.heap.size, 0, none⟩ w' ∧ G.Le G' ∧ HRel G' (hp h [(nm, .row 0 e cs.length [cs])]) w' ∧ Rel G' (.ptr nm 0 0 0) (.pointer (some ⟨w.heap.size, 0, none⟩)) := by
  let G' : Gh := { M := G.M, loc := fun i ver => if i = nm ∧ ver = 0 then some (.slice (some ⟨w.heap.size, 0, none⟩) 1 1, cs.length) else G.loc i ver, w0 := G.w0, mks := G.mks, out := G.out }
  have hnot : ∀ i ver x, G.loc i ver = some x → i ≠ nm := fun i ver x h e => H.dom i ver x h (e ▸ hn)
  have hle : G.Le G' := ⟨fun _ _ _ h => h, fun i ver x h => by
    show (if i = nm ∧ ver = 0 then _ else _) = _
    rw [if_neg (fun e => hnot i ver x h e.1)]; exact h, rfl, fun _ h => h, rfl⟩
  have hloc : G'.loc nm 0 = some (.slice (some ⟨w.heap.size, 0, none⟩) 1 1, cs.length) := by
    show (if nm = nm ∧ 0 = 0 then _ else _) = _
    simp
  have hlen := hr.length
  have hsz : u.cells.size = 1 * cs.length := by rw [← Array.length_toList]; omega
  refine ⟨G', w.alloc (.cells u.cells e), by simp [newVar, newRow], hle, ?_, ?_⟩
  · refine HRel.upd (row := none) H hle rfl (fun i ver x hx => ?_) rfl (World.grownBy_alloc w _ none) (fun g e => by cases e) ?_ ?_ (fun v hv => ?_)
    rotate_left 3
    · show (if nm = nm ∧ v = 0 then _ else G.loc nm v) = none
      rw [if_neg (by simp only [Blk.ver] at hv; omega)]
      cases hg : G.loc nm v with
      | none => rfl
      | some x => exact absurd rfl (hnot nm v x hg)
    · by_cases e : i = nm ∧ ver = 0
      · exact .inr e.1
      · have : (if i = nm ∧ ver = 0 then _ else G.loc i ver) = some x := hx
        rw [if_neg e] at this; exact .inl this
    · refine ⟨_, u.cells.toList, hloc, ?_, by simpa using RelL.mono hle hr, by simp, RelL.one hr hone, ?_⟩
      · exact World.ownsRow_lit w u.cells 1 H.below.size (by simp [maxLen]) hsz
      · intro g hg o
        simp [Value.ownBlock] at hg
        subst hg
        cases hM : G.M w.heap.size o with
        | none => rfl
        | some v => have := World.block_lt_of_cell? w _ (H.imm _ _ _ hM).1; simp at this
    · intro g hg
      simp [cbOf, hloc, Value.ownBlock] at hg
      exact .inr (by omega)
  · simp only [Rel]
    exact ⟨w.heap.size, 1, 1, cs.length, hloc, by simp⟩

end Go.AM

/- Rows: made, built, appended to, copied into. -/
namespace Go.AM
set_option linter.unusedVariables false
set_option linter.unusedSimpArgs false
open Go Go.RowKit
set_option linter.unusedSectionVars false
variable [Glob]

/-- A slice type's elements: type, cells, bytes, the zero's cells. -/
def tElem (P : Program) (t : TypeId) : Option (TypeId × Nat × Nat × List Value) :=
  match P.underlying t with
  | some (.slice e) => (P.info? e).bind fun i => i.zero.map fun z => (e, i.size, i.bytes, z.cells.toList)
  | _ => none

theorem tElem_parts {P : Program} {t e : TypeId} {sz by_ : Nat} {zs : List Value} (h : tElem P t = some (e, sz, by_, zs)) :
    ∃ i z, P.underlying t = some (.slice e) ∧ P.info? e = some i ∧ i.zero = some z ∧ i.size = sz ∧ i.bytes = by_ ∧ z.cells.toList = zs := by
  unfold tElem at h
  cases hd : P.underlying t with
  | none => simp [hd] at h
  | some d =>
    cases d with
    | slice e' =>
      simp only [hd] at h
      cases hi : P.info? e' with
      | none => simp [hi] at h
      | some i =>
        cases hz : i.zero with
        | none => simp [hi, hz] at h
        | some z =>
          simp [hi, hz] at h
          obtain ⟨rfl, rfl, rfl, rfl⟩ := h
          exact ⟨i, z, rfl, hi, hz, rfl, rfl, rfl⟩
    | _ => simp [hd] at h

/-- A new row. -/
theorem new_row {G : Gh} {h : AHeap} {w w' : World} (H : HRel G h w) {nm : Nat} (hn : h nm = none) {e : TypeId} {sz n cap : Nat} {xs : List Value} {es : List (List AV)} (hg : w.grownBy w' none)
    (ho : w'.ownsRow G.w0.heap.size e sz (.slice (some ⟨w.heap.size, 0, none⟩) n cap) n xs) (hr : RelL G es.flatten xs) (hs : ∀ x ∈ es, x.length = sz) (hl : es.length = n) (hone : ∀ x ∈ xs, x.oneCell' = true) :
    ∃ G', G.Le G' ∧ HRel G' (hp h [(nm, .row 0 e sz es)]) w' ∧ Rel G' (.own nm 0 0 n) (.slice (some ⟨w.heap.size, 0, none⟩) n cap) := by
  let G' : Gh := { M := G.M, loc := fun i ver => if i = nm ∧ ver = 0 then some (.slice (some ⟨w.heap.size, 0, none⟩) n cap, sz) else G.loc i ver, w0 := G.w0, mks := G.mks, out := G.out }
  have hnot : ∀ i ver x, G.loc i ver = some x → i ≠ nm := fun i ver x h e => H.dom i ver x h (e ▸ hn)
  have hle : G.Le G' := ⟨fun _ _ _ h => h, fun i ver x h => by
    show (if i = nm ∧ ver = 0 then _ else _) = _
    rw [if_neg (fun e => hnot i ver x h e.1)]; exact h, rfl, fun _ h => h, rfl⟩
  have hloc : G'.loc nm 0 = some (.slice (some ⟨w.heap.size, 0, none⟩) n cap, sz) := by
    show (if nm = nm ∧ 0 = 0 then _ else _) = _
    simp
  have hnc : n ≤ cap := by rcases ho.2 with ⟨e1, _⟩ | ⟨_, _, _, e1, _, _, h, _⟩ <;> cases e1; exact h
  refine ⟨G', hle, ?_, ?_⟩
  · refine HRel.upd (row := none) H hle rfl (fun i ver x hx => ?_) rfl hg (fun g e => by cases e) ?_ ?_ (fun v hv => ?_)
    rotate_left 3
    · show (if nm = nm ∧ v = 0 then _ else G.loc nm v) = none
      rw [if_neg (by simp only [Blk.ver] at hv; omega)]
      cases hg : G.loc nm v with
      | none => rfl
      | some x => exact absurd rfl (hnot nm v x hg)
    · by_cases e : i = nm ∧ ver = 0
      · exact .inr e.1
      · have : (if i = nm ∧ ver = 0 then _ else G.loc i ver) = some x := hx
        rw [if_neg e] at this; exact .inl this
    · refine ⟨_, xs, hloc, by rw [hl]; exact ho, RelL.mono hle hr, hs, hone, ?_⟩
      intro g hg' o
      simp [Value.ownBlock] at hg'
      subst hg'
      cases hM : G.M w.heap.size o with
      | none => rfl
      | some v => have := World.block_lt_of_cell? w _ (H.imm _ _ _ hM).1; simp at this
    · intro g hg'
      simp [cbOf, hloc, Value.ownBlock] at hg'
      exact .inr (by omega)
  · simp only [Rel]
    exact ⟨some ⟨w.heap.size, 0, none⟩, n, cap, sz, some ⟨w.heap.size, 0, none⟩, hloc, by omega, hnc, by simp, by simp, by simp⟩

theorem pv_rel {G : Gh} : ∀ (vs : List Value), RelL G (vs.map fun v => AV.p (.v v)) vs
  | [] => by simp [RelL]
  | v :: vs => by simp only [List.map_cons, RelL]; exact ⟨by simp [Rel, PRel], pv_rel vs⟩

theorem toList_madeCells (z : List Value) (n : Nat) : (madeCells z.toArray (n * z.length)).toList = (List.replicate n z).flatten := by
  induction n with
  | zero => simp [madeCells]
  | succ n ih =>
    apply List.ext_getElem?
    intro j
    by_cases hz : z = []
    · subst hz; simp [madeCells]
    have hpos : 0 < z.length := List.length_pos_iff.2 hz
    rw [List.replicate_succ, List.flatten_cons]
    by_cases hj : j < z.length
    · rw [List.getElem?_append_left hj]
      have : j < (n + 1) * z.length := by rw [Nat.succ_mul]; omega
      simp [madeCells, this, Nat.mod_eq_of_lt hj, hj]
    · rw [List.getElem?_append_right (by omega), ← ih]
      by_cases h2 : j < (n + 1) * z.length
      · have h3 : j - z.length < n * z.length := by rw [Nat.succ_mul] at h2; omega
        have h4 : (j - z.length) % z.length = j % z.length := by
          conv => rhs; rw [show j = (j - z.length) + z.length by omega]
          rw [Nat.add_mod_right]
        simp [madeCells, h2, h3, h4]
      · have h3 : ¬ (j - z.length < n * z.length) := by rw [Nat.succ_mul] at h2; omega
        simp [madeCells, h2, h3]

/-- make([]T, n). -/
theorem make_rel {P : Program} {G : Gh} {h : AHeap} {w : World} (H : HRel G h w) {nm : Nat} (hn : h nm = none) {t e : TypeId} {sz by_ : Nat} {zs : List Value} (ht : tElem P t = some (e, sz, by_, zs))
    (hz : zs.length = sz) (hone : zs.all Value.oneCell' = true) (kl kc : IntKind) (n : Nat) (h1 : by_ ≤ 1000) (h2 : n < 4294967296) :
    ∃ u G' w', (Instr.makeSlice t (.int kl (n : Int)) (.int kc (n : Int))).run P w = .ok u w' ∧ G.Le G' ∧ HRel G' (hp h [(nm, .row 0 e sz (List.replicate n (zs.map fun v => AV.p (.v v))))]) w' ∧ Rel G' (.own nm 0 0 n) u := by
  obtain ⟨i, z, ht', hi, hz', hs, hb, hzc⟩ := tElem_parts ht
  have hbn : i.bytes * n ≤ 281474976710656 := by
    rw [hb]
    have : by_ * n ≤ 1000 * 4294967296 := Nat.mul_le_mul h1 (by omega)
    omega
  obtain ⟨w', hr, ho, hg⟩ := run_make_full (P := P) w G.w0.heap.size t e i z sz ht' hi hz' hs kl kc n hbn (by simp [maxLen]; omega) H.below.size
  have hcells : (madeCells z.cells (n * sz)).toList = (List.replicate n zs).flatten := by
    rw [← hzc, ← hz, ← hzc]; rw [← toList_madeCells]
  rw [hcells] at ho
  have hall : ∀ v ∈ zs, v.oneCell' = true := by simpa using hone
  obtain ⟨G', l, hh, rr⟩ := new_row H hn hg ho (es := List.replicate n (zs.map fun v => AV.p (.v v))) (by
      have : (List.replicate n (zs.map fun v => AV.p (.v v))).flatten = (List.replicate n zs).flatten.map fun v => AV.p (.v v) := by
        rw [List.map_flatten, List.map_replicate]
      rw [this]; exact pv_rel _) (fun x hx => by rw [List.mem_replicate] at hx; rw [hx.2]; simpa using hz) (by simp)
    (fun x hx => by
      rw [List.mem_flatten] at hx
      obtain ⟨l, hl, hx⟩ := hx
      rw [List.mem_replicate] at hl
      rw [hl.2] at hx
      exact hall x hx)
  exact ⟨_, G', w', hr, l, hh, rr⟩

/-- The elements of a slice. -/
def asrc (h : AHeap) (sz : Nat) : AV → Option (List (List AV))
  | .p (.v (.slice none 0 0)) => some []
  | .p (.sl sz' es) => if sz' = sz then some (pcells es) else none
  | .own id ver off len =>
    match h id with
    | some (.row ver' _ sz' es) => if ver' = ver ∧ sz' = sz then some ((es.drop off).take len) else none
    | _ => none
  | .sub id ver i j len =>
    match h id with
    | some (.row ver' _ sz' es) => if ver' = ver ∧ sz' = sz ∧ j = 0 ∧ i + len ≤ es.length then some ((es.drop i).take len) else none
    | _ => none
  | _ => none

theorem flatten_take {α : Type} {sz : Nat} : ∀ {l : List (List α)} (n : Nat), (∀ e ∈ l, e.length = sz) → (l.take n).flatten = l.flatten.take (n * sz)
  | [], _, _ => by simp
  | x :: l, 0, _ => by simp
  | x :: l, n + 1, h => by
    have hx := h x (by simp)
    rw [List.take_succ_cons, List.flatten_cons, List.flatten_cons, flatten_take n fun e he => h e (by simp [he]), List.take_append, Nat.succ_mul, hx, show n * sz + sz - sz = n * sz by omega, List.take_of_length_le (l := x) (by omega)]

theorem PEls.len {M : Nat → Nat → Option Value} {b sz : Nat} : ∀ {es : List (List PV)} {o : Nat}, PEls M b o sz es → ∀ e ∈ es, e.length = sz
  | [], _, _, _, h => by cases h
  | x :: es, o, h, e, he => by
    simp only [PEls] at h
    cases he with
    | head => exact h.1
    | tail _ he => exact PEls.len h.2.2 e he

theorem PEls.cells {M : Nat → Nat → Option Value} {b sz : Nat} : ∀ {es : List (List PV)} {o : Nat}, PEls M b o sz es → PCells M b o es.flatten
  | [], _, _ => by simp [PCells]
  | x :: es, o, h => by
    simp only [PEls] at h
    have ap : ∀ {cs ds : List PV} {o : Nat}, PCells M b o cs → PCells M b (o + cs.length) ds → PCells M b o (cs ++ ds) := by
      intro cs
      induction cs with
      | nil => intro ds o _ h; simpa using h
      | cons c cs ih =>
        intro ds o h1 h2
        simp only [PCells, List.cons_append] at h1 ⊢
        exact ⟨h1.1, ih h1.2 (by rwa [List.length_cons, show o + (cs.length + 1) = o + 1 + cs.length by omega] at h2)⟩
    rw [List.flatten_cons]
    refine ap h.2.1 ?_
    rw [h.1]; exact PEls.cells h.2.2

theorem asrc_rel {G : Gh} {h : AHeap} {w : World} (H : HRel G h w) {sz : Nat} {x : AV} {es : List (List AV)} (hs : asrc h sz x = some es) {y : Value} (r : Rel G x y) :
    (∀ e ∈ es, e.length = sz) ∧ ((y = .slice none 0 0 ∧ es = []) ∨ ∃ a c news, y = .slice (some a) es.length c ∧ news.length = es.length * sz ∧ (∀ (j : Nat) (v : Value), news[j]? = some v → w.cell? (a.add j) = some v) ∧
      RelL G es.flatten news ∧ ∀ v ∈ news, v.oneCell' = true) := by
  have fin : ∀ {es : List (List AV)}, es = [] → (∀ e ∈ es, e.length = sz) := fun e => by subst e; simp
  cases x with
  | p x =>
    cases x with
    | v x =>
      simp only [Rel, PRel] at r
      subst r
      cases y with
      | slice a n c =>
        cases a with
        | none =>
          cases n with
          | zero =>
            cases c with
            | zero => simp only [asrc] at hs; cases hs; exact ⟨by simp, .inl ⟨rfl, rfl⟩⟩
            | succ c => simp [asrc] at hs
          | succ n => simp [asrc] at hs
        | some a => simp [asrc] at hs
      | _ => simp [asrc] at hs
    | sl sz' ps =>
      simp only [asrc] at hs
      split at hs
      · rename_i e
        subst e
        cases hs
        simp only [Rel, PRel] at r
        obtain ⟨a, n, c, rfl, rfl, hc, ha, hr⟩ := r
        rcases hr with rfl | ⟨b, o, rfl, he⟩
        · refine ⟨by simp, ?_⟩
          cases a with
          | none => exact .inl ⟨by simp [ha rfl], rfl⟩
          | some a => exact .inr ⟨a, c, [], by simp, by simp, by simp, by simp [RelL], by simp⟩
        · have hl := PEls.len he
          refine ⟨fun e he => by simp only [pcells, List.mem_map] at he; obtain ⟨e', h1, rfl⟩ := he; simpa using hl e' h1, .inr ?_⟩
          obtain ⟨vs, l, gm, rr⟩ := PCells.vals (PEls.cells he)
          refine ⟨⟨b, o, none⟩, c, vs, by simp, by rw [l, flatten_len hl]; simp, fun j v hv => by rw [ptr_add]; exact (H.imm _ _ _ (gm j v hv)).1, by rw [flat_pcells]; exact rr rfl, fun v hv => ?_⟩
          obtain ⟨j, hj, rfl⟩ := List.getElem_of_mem hv
          exact (H.imm _ _ _ (gm j _ (List.getElem?_eq_getElem hj))).2
      · cases hs
  | sub id ver i j len =>
    simp only [asrc] at hs
    cases hk : h id with
    | none => rw [hk] at hs; cases hs
    | some k =>
      cases k with
      | mp => rw [hk] at hs; cases hs
      | row ver' e sz' es' =>
        rw [hk] at hs
        simp only at hs
        split at hs
        · rename_i e1
          obtain ⟨rfl, rfl, rfl, hlen⟩ := e1
          cases hs
          obtain ⟨v, xs, l1, o1, r1, s1, on1, _⟩ := H.blk id _ hk
          simp only [Rel] at r
          obtain ⟨g, n, c, szr, cap, hl, rfl, hcap⟩ := r
          rw [hl] at l1
          cases l1
          have hl2 : ((es'.drop i).take len).length = len := by rw [List.length_take, List.length_drop]; omega
          have hxl := r1.length
          rw [flatten_len s1] at hxl
          have hmul : i * sz' + len * sz' ≤ es'.length * sz' := by rw [← Nat.add_mul]; exact Nat.mul_le_mul_right _ hlen
          have hn : n = es'.length := by
            rcases o1.2 with ⟨e1, _⟩ | ⟨_, _, _, e1, _⟩
            · injection e1 with q1 _ _; cases q1
            · injection e1
          subst hn
          refine ⟨fun e he => s1 e (List.mem_of_mem_drop (List.mem_of_mem_take he)), .inr ⟨_, cap, (xs.drop (i * sz')).take (len * sz'), by rw [hl2], by rw [hl2, List.length_take, List.length_drop]; omega, fun j v hv => ?_, ?_, fun v hv => ?_⟩⟩
          · rw [List.getElem?_take] at hv
            split at hv
            · rw [List.getElem?_drop] at hv
              rw [ptr_add, Nat.add_zero, World.ownsRow.cellAt o1 _ (by omega)]; exact hv
            · cases hv
          · rw [flatten_take _ (fun e he => s1 e (List.mem_of_mem_drop he)), ← flatten_drop i s1]; exact RelL.take _ (RelL.drop _ r1)
          · exact on1 v (List.mem_of_mem_drop (List.mem_of_mem_take hv))
        · cases hs
  | own id ver off len =>
    simp only [asrc] at hs
    cases hk : h id with
    | none => rw [hk] at hs; cases hs
    | some k =>
      cases k with
      | mp => rw [hk] at hs; cases hs
      | row ver' e sz' es' =>
        rw [hk] at hs
        simp only at hs
        split at hs
        · rename_i e1
          obtain ⟨rfl, rfl⟩ := e1
          cases hs
          obtain ⟨v, xs, l1, o1, r1, s1, on1, _⟩ := H.blk id _ hk
          simp only [Rel] at r
          obtain ⟨a, n, c, szr, a', hl, hoff, hnc, rfl, hz, ha⟩ := r
          rw [hl] at l1
          cases l1
          have hn : n = es'.length := by rcases o1.2 with ⟨e1, e2⟩ | ⟨_, _, _, e1, _⟩ <;> cases e1 <;> simp_all
          subst hn
          have hlen : ((es'.drop off).take len).length = len := by rw [List.length_take, List.length_drop]; omega
          refine ⟨fun e he => s1 e (List.mem_of_mem_drop (List.mem_of_mem_take he)), ?_⟩
          by_cases h0 : 0 < len
          · have e4 := ha (.inl h0)
            rcases o1.2 with ⟨e1, _⟩ | ⟨g, cap, cur, e1, _, hg, hcap, _, hcur, htk⟩
            · injection e1 with e5 e6; omega
            · cases e1
              simp only [Option.map_some] at e4
              subst e4
              have hfl : ((es'.drop off).take len).flatten = (es'.flatten.drop (off * sz')).take (len * sz') := by
                rw [flatten_drop off s1]
                have : ∀ (l : List (List AV)) (n : Nat), (∀ e ∈ l, e.length = sz') → (l.take n).flatten = l.flatten.take (n * sz') := by
                  intro l
                  induction l with
                  | nil => intro n _; simp
                  | cons a l ih =>
                    intro n hl
                    cases n with
                    | zero => simp
                    | succ n =>
                      rw [List.take_succ_cons, List.flatten_cons, List.flatten_cons, Nat.succ_mul, ih n fun e he => hl e (by simp [he])]
                      rw [show n * sz' + sz' = a.length + n * sz' by rw [hl a (by simp)]; omega, List.take_append, List.take_of_length_le (l := a) (by omega)]
                      simp
                exact this _ _ fun e he => s1 e (List.mem_of_mem_drop he)
              have hxl := r1.length
              rw [flatten_len s1] at hxl
              have hmul : off * sz' + len * sz' ≤ es'.length * sz' := by rw [← Nat.add_mul]; exact Nat.mul_le_mul_right _ hoff
              refine .inr ⟨_, c - off, (xs.drop (off * sz')).take (len * sz'), by rw [hlen], by rw [hlen, List.length_take, List.length_drop]; omega, fun j v hv => ?_, ?_, fun v hv => ?_⟩
              · rw [List.getElem?_take] at hv
                split at hv
                · rw [List.getElem?_drop] at hv
                  rw [ptr_add, World.ownsRow.cellAt o1 _ (by omega)]; exact hv
                · cases hv
              · rw [hfl]; exact RelL.take _ (RelL.drop _ r1)
              · exact on1 v (List.mem_of_mem_drop (List.mem_of_mem_take hv))
          · have hl0 : len = 0 := by omega
            subst hl0
            simp only [List.take_zero]
            cases a' with
            | none => exact .inl ⟨by rw [hz rfl], by simp⟩
            | some a' => exact .inr ⟨a', c - off, [], by simp, by simp, by simp, by simp [RelL], by simp⟩
        · cases hs
  | _ => simp [asrc] at hs

end Go.AM

/- append, and the addresses. -/
namespace Go.AM
set_option linter.unusedVariables false
set_option linter.unusedSimpArgs false
open Go Go.RowKit
set_option linter.unusedSectionVars false
variable [Glob]

/-- A row that is appended to lies where it lay, or in a new block. -/
theorem append_own_more {P : Program} {w : World} (base : Nat) (t ty e : TypeId) (i : TypeInfo) (z : Value) (size bytes : Nat) (ht : P.underlying t = some (.slice e)) (hi : P.info? e = some i) (hz : i.zero = some z)
    (hsize : i.size = size) (hby : i.bytes = bytes) (hzs : z.cells.size = size) (hsz : 0 < size)
    (v : Value) (n : Nat) (xs : List Value) (hown : w.ownsRow base e size v n xs)
    (a : Addr) (m c : Nat) (news : List Value) (hl : news.length = m * size) (hnews : ∀ j u, news[j]? = some u → w.cell? (a.add j) = some u) (h1 : ∀ u ∈ news, u.oneCell' = true)
    (h63 : n + m ≤ maxLen) (hbytes : (n + m) * bytes ≤ 140737488355328) (hbase : base ≤ w.heap.size) :
    ∃ v' w', (Builtin.append_ #[t, t] ty #[v, .slice (some a) m c]).run P w = .ok v' w' ∧ w'.ownsRow base e size v' (n + m) (xs ++ news) ∧ w.grownBy w' v.ownBlock ∧
      ∀ g, v'.ownBlock = some g → v.ownBlock = some g ∨ w.heap.size ≤ g := by
  obtain ⟨v', w', hr, h2, h3, h4⟩ := run_append_own (P := P) w base t ty e i z size bytes ht hi hz hsize hby hzs hsz v n xs hown a m c news hl hnews h1 h63 hbytes hbase
  refine ⟨v', w', hr, h2, h3, ?_⟩
  have hsmall : n + m ≤ 9223372036854775807 := by simp only [maxLen] at h63; omega
  rcases hown.2 with ⟨rfl, rfl⟩ | ⟨g, cap, cur, rfl, hbg, hg, hnc, hcm, hcs, htake⟩
  · by_cases hm : m = 0
    · intro g hg
      have := h4.2 ⟨rfl, hm⟩
      rw [this] at hg
      simp [Value.ownBlock] at hg
    · have hr2 := run_append_nil (P := P) w t ty e i z ht hi hz a m c news (by rw [hsize]; exact hl) hnews (by omega) (by omega) (by rw [hby]; have hb := hbytes; simp only [Nat.zero_add] at hb; omega)
      rw [hr2] at hr
      cases hr
      intro g hg
      simp [Value.ownBlock] at hg
      exact .inr (by omega)
  · by_cases hroom : n + m ≤ cap
    · have hfit : n * i.size + news.length ≤ cur.size := by rw [hsize, hl, hcs, ← Nat.add_mul]; exact Nat.mul_le_mul_right _ hroom
      have hr2 := run_append_room (P := P) w t ty e i ht hi g n cap cur hg a m c news (by rw [hsize]; exact hl) hnews h1 hroom hfit
      rw [hr2] at hr
      cases hr
      intro g' hg'
      simp [Value.ownBlock] at hg' ⊢
      exact .inl hg'
    · have holds : ∀ j u, xs[j]? = some u → w.cell? ((⟨g, 0, none⟩ : Addr).add j) = some u := hown.cells (g := g) rfl
      have hr2 := run_append_grow (P := P) w t ty e i z ht hi hz ⟨g, 0, none⟩ n cap xs (by rw [hsize]; exact hown.1) holds a m c news (by rw [hsize]; exact hl) hnews (by omega) (by omega) (by rw [hby]; exact growslice_fits (by omega) hbytes)
      rw [hr2] at hr
      cases hr
      intro g' hg'
      simp [Value.ownBlock] at hg'
      exact .inr (by omega)

/-- Short enough for any memory. -/
def Small (n : Nat) : Prop := n < 4294967296
instance (n : Nat) : Decidable (Small n) := inferInstanceAs (Decidable (n < 4294967296))
theorem Small.le {m n : Nat} (h : Small n) (hm : m ≤ n) : Small m := Nat.lt_of_le_of_lt hm h
theorem Small.lt {n : Nat} (h : Small n) : n < 4294967296 := h
theorem Small.mk {n : Nat} (h : n < 4294967296) : Small n := h

/-- append: the row that grows, and what it becomes; a nil slice becomes a new row (nm). -/
def aapp (P : Program) (h : AHeap) (nm : Nat) (t : TypeId) (s x : AV) : Option (List (Nat × Blk) × List (Nat × Blk) × AV) :=
  match tElem P t with
  | some (e, sz, by_, zs) =>
    if zs.length = sz ∧ 0 < sz ∧ by_ ≤ 1000 then
      match asrc h sz x with
      | some news =>
        match s with
        | .p (.v (.slice none 0 0)) => if Small news.length then some ([], [(nm, .row 0 e sz news)], .own nm 0 0 news.length) else none
        | .own id ver 0 len =>
          match h id with
          | some (.row ver' e' sz' es) =>
            if ver' = ver ∧ e' = e ∧ sz' = sz ∧ len = es.length ∧ Small (es.length + news.length) then
              some ([(id, .row ver e sz es)], [(id, .row (ver + 1) e sz (es ++ news))], .own id (ver + 1) 0 (es.length + news.length)) else none
          | _ => none
        | _ => none
      | none => none
    else none
  | none => none

theorem small_bytes {n b : Nat} (hb : b ≤ 1000) (hn : n < 4294967296) : n * b ≤ 140737488355328 := by
  have : n * b ≤ 4294967296 * 1000 := Nat.mul_le_mul (by omega) hb
  omega

theorem aapp_rel {P : Program} {G : Gh} {h : AHeap} {w : World} (H : HRel G h w) {nm : Nat} {t ty : TypeId} {s x v : AV} {rd wr : List (Nat × Blk)} (hn0 : ∀ p ∈ wr, p.1 = nm → h nm = none) (ha : aapp P h nm t s x = some (rd, wr, v))
    {ys yx : Value} (rs : Rel G s ys) (rx : Rel G x yx) :
    (∀ p ∈ rd, h p.1 = some p.2) ∧ ∃ u G' w', (Builtin.append_ #[t, t] ty #[ys, yx]).run P w = .ok u w' ∧ G.Le G' ∧ HRel G' (hp h wr) w' ∧ Rel G' v u := by
  unfold aapp at ha
  cases hT : tElem P t with
  | none => rw [hT] at ha; cases ha
  | some q =>
    obtain ⟨e, sz, by_, zs⟩ := q
    rw [hT] at ha
    simp only at ha
    split at ha
    case isFalse => cases ha
    rename_i hc
    obtain ⟨hzl, hsz, hby⟩ := hc
    cases hx : asrc h sz x with
    | none => rw [hx] at ha; cases ha
    | some news =>
      rw [hx] at ha
      simp only at ha
      obtain ⟨i, z, ht', hi, hz', hs, hb, hzc⟩ := tElem_parts hT
      have hzs : z.cells.size = sz := by rw [← Array.length_toList, hzc, hzl]
      obtain ⟨hnl, hsrc⟩ := asrc_rel H hx rx
      -- the general step: a row that is owned, by whatever ghost
      have step : ∀ (id ver : Nat) (es : List (List AV)) (v0 : Value) (xs : List Value) (Gs : Gh) (hh : AHeap), Gs.M = G.M → G.Le Gs → HRel Gs hh w → hh id = some (.row ver e sz es) → Gs.loc id ver = some (v0, sz) → w.ownsRow G.w0.heap.size e sz v0 es.length xs →
          RelL Gs es.flatten xs → (∀ y ∈ es, y.length = sz) → (∀ y ∈ xs, y.oneCell' = true) → (∀ g, v0.ownBlock = some g → ∀ o, G.M g o = none) → es.length + news.length < 4294967296 →
          ∃ u G' w', (Builtin.append_ #[t, t] ty #[v0, yx]).run P w = .ok u w' ∧ Gs.Le G' ∧ HRel G' (hp hh [(id, .row (ver + 1) e sz (es ++ news))]) w' ∧ Rel G' (.own id (ver + 1) 0 (es.length + news.length)) u := by
        intro id ver es v0 xs Gs hh hGM hle0 HH hk hl o1 r1 s1 on1 m1 hlt
        have hres : ∃ v' w' newv, (Builtin.append_ #[t, t] ty #[v0, yx]).run P w = .ok v' w' ∧ w'.ownsRow G.w0.heap.size e sz v' (es.length + news.length) (xs ++ newv) ∧ w.grownBy w' v0.ownBlock ∧
            (∀ g, v'.ownBlock = some g → v0.ownBlock = some g ∨ w.heap.size ≤ g) ∧ RelL G news.flatten newv ∧ (∀ y ∈ newv, y.oneCell' = true) := by
          rcases hsrc with ⟨rfl, rfl⟩ | ⟨a, c, newv, rfl, h1, h2, h3, h4⟩
          · have := run_append_owned_none (P := P) w G.w0.heap.size t ty e i sz ht' hi v0 es.length xs o1
            exact ⟨v0, w, [], this, by simpa using o1, World.grownBy.refl w _, fun g hg => .inl hg, by simp [RelL], by simp⟩
          · obtain ⟨v', w', e1, e2, e3, e4⟩ := append_own_more (P := P) (w := w) G.w0.heap.size t ty e i z sz by_ ht' hi hz' hs hb hzs hsz v0 es.length xs o1 a news.length c newv h1 h2 h4 (by simp [maxLen]; omega) (small_bytes hby hlt) H.below.size
            exact ⟨v', w', newv, e1, e2, e3, e4, h3, h4⟩
        obtain ⟨v', w', newv, e1, e2, e3, e4, e5, e6⟩ := hres
        let G' : Gh := { M := Gs.M, loc := fun i v => if i = id ∧ v = ver + 1 then some (v', sz) else Gs.loc i v, w0 := Gs.w0, mks := Gs.mks, out := Gs.out }
        have hnone : Gs.loc id (ver + 1) = none := HH.top id _ (ver + 1) hk (by simp [Blk.ver])
        have hle : Gs.Le G' := ⟨fun _ _ _ h => h, fun i v y h => by
          show (if i = id ∧ v = ver + 1 then _ else _) = _
          rw [if_neg (fun ⟨e1, e2⟩ => by rw [e1, e2, hnone] at h; cases h)]; exact h, rfl, fun _ h => h, rfl⟩
        have hloc : G'.loc id (ver + 1) = some (v', sz) := by
          show (if id = id ∧ ver + 1 = ver + 1 then _ else _) = _
          simp
        have hv' : ∃ a c, v' = .slice a (es.length + news.length) c ∧ es.length + news.length ≤ c ∧ (a = none → c = 0) ∧ (∀ b, a = some b → b.off = 0 ∧ b.spot = none) := by
          rcases e2.2 with ⟨h1, h2⟩ | ⟨g, cap, cur, h1, _, _, h2, _⟩
          · exact ⟨none, 0, by rw [h1, h2], by omega, fun _ => rfl, by simp⟩
          · exact ⟨_, cap, h1, h2, by simp, by intro b hb; cases hb; exact ⟨rfl, rfl⟩⟩
        have hM : ∀ g, v'.ownBlock = some g → ∀ o, G.M g o = none := fun g hg o => by
          rcases e4 g hg with h1 | h1
          · exact m1 g h1 o
          · cases hM : G.M g o with
            | none => rfl
            | some y => have := World.block_lt_of_cell? w _ (H.imm _ _ _ hM).1; simp at this; omega
        refine ⟨v', G', w', e1, hle, ?_, ?_⟩
        · refine HRel.upd HH hle rfl (fun i v y hy => ?_) rfl e3 ?_ ?_ ?_ (fun v hv => ?_)
          · by_cases e : i = id ∧ v = ver + 1
            · exact .inr e.1
            · have : (if i = id ∧ v = ver + 1 then _ else Gs.loc i v) = some y := hy
              rw [if_neg e] at this; exact .inl this
          · intro g hg
            refine ⟨HH.mk_own o1 hg, ?_, fun o => by rw [hGM]; exact m1 g hg o, fun i2 l hne hl2 h2 => HH.sep id i2 _ l g (fun e => hne e.symm) hk hl2 (by simp [cbOf, hl, hg]) h2⟩
            rw [hle0.w]
            exact (o1.lt g hg).1
          · refine ⟨v', xs ++ newv, hloc, ?_, ?_, ?_, ?_, fun g hg o => by show Gs.M g o = none; rw [hGM]; exact hM g hg o⟩
            · show w'.ownsRow Gs.w0.heap.size _ _ _ _ _
              rw [hle0.w, List.length_append]; exact e2
            · rw [List.flatten_append]; exact RelL.append (RelL.mono hle r1) (RelL.mono (hle0.trans hle) e5)
            · intro y hy
              rcases List.mem_append.1 hy with h | h
              · exact s1 y h
              · exact hnl y h
            · intro y hy
              rcases List.mem_append.1 hy with h | h
              · exact on1 y h
              · exact e6 y h
          · intro g hg
            simp only [cbOf, hloc, Option.bind_some] at hg
            exact e4 g hg
          · simp only [Blk.ver] at hv
            show (if id = id ∧ v = ver + 1 then _ else Gs.loc id v) = none
            rw [if_neg (by omega)]
            exact HH.top id _ v hk (by simp only [Blk.ver]; omega)
        · obtain ⟨a, c, rfl, h1, h2, h3⟩ := hv'
          simp only [Rel]
          refine ⟨a, _, c, sz, a, hloc, by omega, h1, by simp, by simpa using h2, fun _ => ?_⟩
          cases a with
          | none => rfl
          | some b =>
            obtain ⟨bb, bo, bs⟩ := b
            have := h3 _ rfl
            simp at this
            obtain ⟨rfl, rfl⟩ := this
            simp
      cases s with
      | p y =>
        cases y with
        | v y =>
          cases y with
          | slice a0 n0 c0 =>
            cases a0 with
            | none =>
              cases n0 with
              | zero =>
                cases c0 with
                | zero =>
                  simp only at ha
                  split at ha
                  · rename_i hlt
                    have hlt := hlt.lt
                    cases ha
                    have hn : h nm = none := hn0 _ (List.mem_singleton.2 rfl) rfl
                    refine ⟨by simp, ?_⟩
                    simp only [Rel, PRel] at rs
                    subst rs
                    -- an empty row at a version below the new one: the ghost's own
                    let Gs : Gh := G
                    have hres : ∃ v' w' newv, (Builtin.append_ #[t, t] ty #[.slice none 0 0, yx]).run P w = .ok v' w' ∧ w'.ownsRow G.w0.heap.size e sz v' news.length newv ∧ w.grownBy w' none ∧
                        (∀ g, v'.ownBlock = some g → w.heap.size ≤ g) ∧ RelL G news.flatten newv ∧ (∀ y ∈ newv, y.oneCell' = true) := by
                      rcases hsrc with ⟨rfl, rfl⟩ | ⟨a, c, newv, rfl, h1, h2, h3, h4⟩
                      · have := run_append_owned_none (P := P) w G.w0.heap.size t ty e i sz ht' hi _ 0 [] (World.ownsRow_nil w _ e sz)
                        exact ⟨_, w, [], this, World.ownsRow_nil w _ e sz, World.grownBy.refl w _, by simp [Value.ownBlock], by simp [RelL], by simp⟩
                      · obtain ⟨v', w', e1, e2, e3, e4⟩ := append_own_more (P := P) (w := w) G.w0.heap.size t ty e i z sz by_ ht' hi hz' hs hb hzs hsz _ 0 [] (World.ownsRow_nil w _ e sz) a news.length c newv h1 h2 h4 (by simp [maxLen]; omega) (by rw [Nat.zero_add]; exact small_bytes hby hlt) H.below.size
                        exact ⟨v', w', newv, e1, by simpa using e2, e3, fun g hg => (e4 g hg).resolve_left (by simp [Value.ownBlock]), h3, h4⟩
                    obtain ⟨v', w', newv, e1, e2, e3, e4, e5, e6⟩ := hres
                    let G' : Gh := { M := G.M, loc := fun i v => if i = nm ∧ v = 0 then some (v', sz) else G.loc i v, w0 := G.w0, mks := G.mks, out := G.out }
                    have hnot : ∀ i ver x, G.loc i ver = some x → i ≠ nm := fun i ver x h e => H.dom i ver x h (e ▸ hn)
                    have hle : G.Le G' := ⟨fun _ _ _ h => h, fun i v y h => by
                      show (if i = nm ∧ v = 0 then _ else _) = _
                      rw [if_neg (fun e => hnot i v y h e.1)]; exact h, rfl, fun _ h => h, rfl⟩
                    have hloc : G'.loc nm 0 = some (v', sz) := by
                      show (if nm = nm ∧ 0 = 0 then _ else _) = _
                      simp
                    refine ⟨v', G', w', e1, hle, ?_, ?_⟩
                    · refine HRel.upd H hle rfl (fun i v y hy => ?_) rfl e3 (fun g e => by cases e) ?_ ?_ (fun v hv => ?_)
                      · by_cases e : i = nm ∧ v = 0
                        · exact .inr e.1
                        · have : (if i = nm ∧ v = 0 then _ else G.loc i v) = some y := hy
                          rw [if_neg e] at this; exact .inl this
                      · refine ⟨v', newv, hloc, e2, RelL.mono hle e5, hnl, e6, fun g hg o => ?_⟩
                        cases hM : G.M g o with
                        | none => rfl
                        | some y => have := World.block_lt_of_cell? w _ (H.imm _ _ _ hM).1; have := e4 g hg; simp at *; omega
                      · intro g hg
                        simp only [cbOf, hloc, Option.bind_some] at hg
                        exact .inr (e4 g hg)
                      · simp only [Blk.ver] at hv
                        show (if nm = nm ∧ v = 0 then _ else G.loc nm v) = none
                        rw [if_neg (by omega)]
                        cases hg : G.loc nm v with
                        | none => rfl
                        | some x => exact absurd rfl (hnot nm v x hg)
                    · simp only [Rel]
                      rcases e2.2 with ⟨h1, h2⟩ | ⟨g, cap, cur, h1, _, _, h2, _⟩
                      · rw [h1] at hloc ⊢
                        exact ⟨none, 0, 0, sz, none, by rw [hloc], by omega, by omega, by simp [h2], by simp, by simp⟩
                      · rw [h1] at hloc ⊢
                        exact ⟨some ⟨g, 0, none⟩, _, cap, sz, some ⟨g, 0, none⟩, hloc, by omega, h2, by simp, by simp, by simp⟩
                  · cases ha
                | succ c0 => simp at ha
              | succ n0 => simp at ha
            | some a0 => simp at ha
          | _ => simp at ha
        | sl => simp at ha
      | own id ver off len =>
        cases off with
        | succ off => simp at ha
        | zero =>
          simp only at ha
          cases hk : h id with
          | none => rw [hk] at ha; cases ha
          | some k =>
            cases k with
            | mp => rw [hk] at ha; cases ha
            | row ver' e' sz' es =>
              rw [hk] at ha
              simp only at ha
              split at ha
              · rename_i hc
                obtain ⟨rfl, rfl, rfl, rfl, hlt⟩ := hc
                have hlt := hlt.lt
                cases ha
                refine ⟨by simp [hk], ?_⟩
                obtain ⟨v0, xs, l1, o1, r1, s1, on1, m1⟩ := H.blk id _ hk
                have hys : ys = v0 := by
                  simp only [Rel] at rs
                  obtain ⟨a, n, c, szr, a', hl, hoff, hnc, rfl, hz, ha'⟩ := rs
                  rw [hl] at l1
                  cases l1
                  have e4 := ha' (by simp)
                  rcases o1.2 with ⟨e1, e2⟩ | ⟨g, cap, cur, e1, _⟩
                  · injection e1 with q1 q2 q3
                    subst q1 q2 q3
                    simp at e4
                    subst e4
                    simp [e2]
                  · injection e1 with q1 q2 q3
                    subst q1 q2 q3
                    simp at e4
                    subst e4
                    simp
                subst hys
                exact step id ver' es ys xs G h rfl (.refl G) H hk l1 o1 r1 s1 on1 m1 hlt
              · cases ha
      | _ => simp at ha

end Go.AM

/- One operation over the abstract state, as a function that can be computed. -/
namespace Go.AM
set_option linter.unusedVariables false
set_option linter.unusedSimpArgs false
open Go Go.RowKit
set_option linter.unusedSectionVars false
variable [Glob]

/-- A type's zero, in cells. -/
def tZero (P : Program) (t : TypeId) : Option (List Value) := (P.info? t).bind fun i => i.zero.map fun z => z.cells.toList
/-- A field: offset, struct or array?, cells. -/
def tField (P : Program) (s : TypeId) (f : Nat) : Option (Nat × Bool × Nat) :=
  match P.underlying s with
  | some (.struct fs) => (fs[f]?).bind fun x => (tAgg P x.type).map fun q => (x.offset, q.1, q.2)
  | _ => none
/-- The fields' places: offset, cells. -/
def tStruct (P : Program) (s : TypeId) : Option (List (Nat × Nat)) :=
  match P.underlying s with
  | some (.struct fs) => fs.toList.mapM fun x => (P.info? x.type).map fun i => (x.offset, i.size)
  | _ => none
/-- An array: length, the element's cells, struct or array? -/
def tArr (P : Program) (t : TypeId) : Option (Nat × Nat × Bool) :=
  match P.underlying t with
  | some (.array n e) => (tAgg P e).map fun q => (n, q.2, q.1)
  | _ => none
def tKind (P : Program) (t : TypeId) : Option IntKind :=
  match P.underlying t with
  | some (.int k) => some k
  | _ => none
def tLen (P : Program) (t : TypeId) : Option Nat :=
  match P.underlying t with
  | some (.array n _) => some n
  | _ => none

def tStr (P : Program) (t : TypeId) : Bool :=
  match P.underlying t with
  | some .string => true
  | _ => false
theorem tStr_run {P : Program} {t : TypeId} (h : tStr P t = true) : P.underlying t = some .string := by
  unfold tStr at h
  split at h
  · assumption
  · cases h

def pv (l : List Value) : List AV := l.map fun v => .p (.v v)

def abin (op : BinOp) : Value → Value → Option Value
  | .int k a, .int k' b =>
    match op with
    | .shl => if b < 0 then none else some (.int k (k.wrap (a * 2 ^ (min b.toNat k.bits))))
    | .shr => if b < 0 then none else some (.int k (a.fdiv (2 ^ (min b.toNat k.bits))))
    | .add => if k = k' then some (.int k (k.wrap (a + b))) else none
    | .sub => if k = k' then some (.int k (k.wrap (a - b))) else none
    | .mul => if k = k' then some (.int k (k.wrap (a * b))) else none
    | .quo => if k = k' ∧ b ≠ 0 then some (.int k (k.wrap (a.tdiv b))) else none
    | .rem => if k = k' ∧ b ≠ 0 then some (.int k (a.tmod b)) else none
    | .and => if k = k' then some (.int k (k.wrap (BitVec.ofInt k.bits a &&& BitVec.ofInt k.bits b).toNat)) else none
    | .or => if k = k' then some (.int k (k.wrap (BitVec.ofInt k.bits a ||| BitVec.ofInt k.bits b).toNat)) else none
    | .xor => if k = k' then some (.int k (k.wrap (BitVec.ofInt k.bits a ^^^ BitVec.ofInt k.bits b).toNat)) else none
    | .andNot => if k = k' then some (.int k (k.wrap (BitVec.ofInt k.bits a &&& ~~~BitVec.ofInt k.bits b).toNat)) else none
    | .eql => if k = k' then some (.bool (decide (a = b))) else none
    | .neq => if k = k' then some (.bool (decide (a ≠ b))) else none
    | .lss => if k = k' then some (.bool (a < b)) else none
    | .leq => if k = k' then some (.bool (a ≤ b)) else none
    | .gtr => if k = k' then some (.bool (a > b)) else none
    | .geq => if k = k' then some (.bool (a ≥ b)) else none
  | .string a, .string b =>
    match op with
    | .add => if a.size + b.size < 4294967296 then some (.string (a ++ b)) else none
    | _ => none
  | _, _ => none

theorem abin_run {P : Program} {op : BinOp} {x y u : Value} (h : abin op x y = some u) (t : TypeId) (ox oy : Operand) (w : World) :
    (do eqGuard op t ox oy x y; binOp op t x y : Sem Value).run P w = .ok u w := by
  cases x with
  | int k a =>
    cases y with
    | int k' b =>
      have hg : (eqGuard op t ox oy (.int k a) (.int k' b)).run P w = .ok () w := by unfold eqGuard; cases op <;> simp
      rw [Sem.run_bind, hg]
      simp only [Result.andThen_ok]
      cases op <;> simp only [abin] at h <;> split at h
      all_goals first
        | (cases h; done)
        | (rename_i hc; cases h; subst hc; simp [binOp, Op.intArith, Op.intBits, Op.intCmp]; done)
        | (rename_i hc; cases h; subst hc; simp [binOp, Op.intCmp]; rfl)
        | (rename_i hc; cases h; obtain ⟨rfl, h2⟩ := hc; simp [binOp, Op.intDiv, h2]; done)
        | (rename_i hc; cases h; simp [binOp, Op.shift, hc]; done)
    | _ => simp [abin] at h
  | string a =>
    cases y with
    | string b =>
      cases op <;> simp only [abin] at h <;> try (cases h; done)
      split at h
      · rename_i hc
        cases h
        have h2 : ¬ (9223372036854775807 < (a.size : Int) + (b.size : Int)) := by omega
        simp [eqGuard, binOp, Op.stringOp, IntKind.max, IntKind.bits, IntKind.signed, h2]
      · cases h
    | _ => simp [abin] at h
  | _ => cases y <;> simp [abin] at h

def AV.val : AV → Option Value
  | .p (.v x) => some x
  | _ => none

theorem AV.val_rel {G : Gh} {x : AV} {u : Value} (h : x.val = some u) {y : Value} (r : Rel G x y) : y = u := by
  cases x with
  | p x =>
    cases x with
    | v x => simp only [AV.val] at h; cases h; simpa only [Rel, PRel] using r
    | sl => simp [AV.val] at h
  | _ => simp [AV.val] at h

/-- Is a slice nil? -/
def anil : AV → Option Bool
  | .p (.v (.slice a _ _)) => some a.isNone
  | .p (.sl _ (_ :: _)) => some false
  | .own _ _ _ (_ + 1) => some false
  | _ => none

theorem anil_rel {G : Gh} {x : AV} {b : Bool} (h : anil x = some b) {y : Value} (r : Rel G x y) : ∃ a n c, y = .slice a n c ∧ a.isNone = b := by
  cases x with
  | p x =>
    cases x with
    | v x =>
      simp only [Rel, PRel] at r
      subst r
      cases y <;> simp [anil] at h
      exact ⟨_, _, _, rfl, h⟩
    | sl sz es =>
      cases es with
      | nil => simp [anil] at h
      | cons e es =>
        simp only [anil] at h
        cases h
        simp only [Rel, PRel] at r
        obtain ⟨a, n, c, rfl, _, _, _, h | ⟨b, o, rfl, _⟩⟩ := r
        · cases h
        · exact ⟨_, _, _, rfl, rfl⟩
  | own id ver off len =>
    cases len with
    | zero => simp [anil] at h
    | succ len =>
      simp only [anil] at h
      cases h
      simp only [Rel] at r
      obtain ⟨a, n, c, sz, a', h1, h2, h3, rfl, h4, h5⟩ := r
      refine ⟨_, _, _, rfl, ?_⟩
      have := h5 (.inl (by omega))
      cases a with
      | none =>
        -- a nil slice has no element
        simp at this
        subst this
        have := h4 rfl
        omega
      | some a => rw [this]; rfl
  | _ => simp [anil] at h

/-- A slice's length. -/
def alen : AV → Option Nat
  | .p (.v (.slice _ n _)) => some n
  | .p (.sl _ es) => some es.length
  | .own _ _ _ len => some len
  | .sub _ _ _ _ len => some len
  | _ => none

theorem alen_rel {G : Gh} {x : AV} {n : Nat} (h : alen x = some n) {y : Value} (r : Rel G x y) : ∃ a c, y = .slice a n c := by
  cases x with
  | p x =>
    cases x with
    | v x =>
      simp only [Rel, PRel] at r
      subst r
      cases y <;> simp [alen] at h
      subst h
      exact ⟨_, _, rfl⟩
    | sl sz es =>
      simp only [alen] at h
      cases h
      simp only [Rel, PRel] at r
      obtain ⟨a, n, c, rfl, rfl, _⟩ := r
      exact ⟨_, _, rfl⟩
  | own id ver off len =>
    simp only [alen] at h
    cases h
    simp only [Rel] at r
    obtain ⟨a, n, c, sz, a', h1, h2, h3, rfl, _⟩ := r
    exact ⟨_, _, rfl⟩
  | sub id ver i j len =>
    simp only [alen] at h
    cases h
    simp only [Rel] at r
    obtain ⟨g, n, c, sz, cap, h1, rfl, h2⟩ := r
    exact ⟨_, _, rfl⟩
  | _ => simp [alen] at h

/-- The address of an element. -/
def aidx (P : Program) (h : AHeap) (t : TypeId) (x : AV) (i : Int) : Option AV :=
  match tElem P t with
  | some (_, sz, _, _) =>
    match x with
    | .p (.sl sz' es) => if sz' = sz ∧ 0 ≤ i then (es[i.toNat]?).map AV.iptr else none
    | .own id ver off len => match h id with
      | some (.row ver' _ sz' _) => if ver' = ver ∧ sz' = sz ∧ 0 ≤ i ∧ i < len then some (.ptr id ver (off + i.toNat) 0) else none
      | _ => none
    | .sub id ver a b len => match h id with
      | some (.row ver' _ sz' _) => if 0 ≤ i ∧ i < len ∧ ver' = ver then (if sz' = sz ∧ b = 0 then some (.ptr id ver (a + i.toNat) 0) else some (.ptr id ver a (b + i.toNat * sz))) else none
      | _ => none
    | _ => none
  | none =>
    match tArr P t with
    | some (n, sz, _) =>
      match x with
      | .ptr id ver a b => if 0 ≤ i ∧ i < n then some (.ptr id ver a (b + i.toNat * sz)) else none
      | .iptr cs => if 0 ≤ i ∧ i < n then some (.iptr (cs.drop (i.toNat * sz))) else none
      | _ => none
    | none => none

theorem tArr_parts {P : Program} {t : TypeId} {n sz : Nat} {ag : Bool} (h : tArr P t = some (n, sz, ag)) : ∃ e, P.underlying t = some (.array n e) ∧ tAgg P e = some (ag, sz) := by
  unfold tArr at h
  cases hd : P.underlying t with
  | none => simp [hd] at h
  | some d =>
    cases d with
    | array n' e =>
      simp only [hd] at h
      cases ha : tAgg P e with
      | none => simp [ha] at h
      | some q => simp [ha] at h; obtain ⟨rfl, rfl, rfl⟩ := h; exact ⟨e, rfl, ha⟩
    | _ => simp [hd] at h

theorem aidx_rel {P : Program} {G : Gh} {h : AHeap} {w : World} (H : HRel G h w) {t : TypeId} {x v : AV} {k : IntKind} {i : Int} (ha : aidx P h t x i = some v) {y : Value} (r : Rel G x y) :
    ∃ u, (Instr.indexAt t y (.int k i)).run P w = .ok u w ∧ Rel G v u := by
  unfold aidx at ha
  cases ht : tElem P t with
  | some q =>
    obtain ⟨e, sz, by_, zs⟩ := q
    obtain ⟨inf, z, ht', hi, hz', hs, hb, hzc⟩ := tElem_parts ht
    have hsz : (sizeOf e).run P w = .ok sz w := by simp [sizeOf, typeInfo, hi, hs]
    rw [ht] at ha
    cases x with
    | p x =>
      cases x with
      | sl sz' es =>
        simp only at ha
        split at ha
        · rename_i hc
          obtain ⟨rfl, h0⟩ := hc
          rw [Option.map_eq_some_iff] at ha
          obtain ⟨e', he, rfl⟩ := ha
          simp only [Rel, PRel] at r
          obtain ⟨a, n, c, rfl, rfl, hnc, _, hr⟩ := r
          have hlt := (List.getElem?_eq_some_iff.1 he).1
          rcases hr with rfl | ⟨b, o, rfl, hE⟩
          · simp at hlt
          · obtain ⟨h1, h2⟩ := PEls.get _ _ hE he
            refine ⟨.pointer (some ⟨b, o + i.toNat * sz', none⟩), ?_, by simp only [Rel]; exact ⟨b, _, rfl, h2⟩⟩
            have hb : 0 ≤ i ∧ i < (es.length : Int) := ⟨h0, by omega⟩
            simp [Instr.indexAt, run_underlying ht', asIntOf, hb, hsz, ptr_add]
        · cases ha
      | v => simp at ha
    | own id ver off len =>
      simp only at ha
      cases hk : h id with
      | none => rw [hk] at ha; cases ha
      | some kk =>
        cases kk with
        | mp => rw [hk] at ha; cases ha
        | row ver' e' sz' es =>
          rw [hk] at ha
          simp only at ha
          split at ha
          · rename_i hc
            obtain ⟨rfl, rfl, h0, h1⟩ := hc
            cases ha
            obtain ⟨v0, xs, l1, o1, r1, s1, on1, m1⟩ := H.blk id _ hk
            simp only [Rel] at r
            obtain ⟨a, n, c, szr, a', hl, hoff, hnc, rfl, hz, ha'⟩ := r
            rw [hl] at l1
            cases l1
            have e4 := ha' (.inl (by omega))
            rcases o1.2 with ⟨e1, e2⟩ | ⟨g, cap, cur, e1, _⟩
            · injection e1 with q1 q2 q3; subst q1 q2 q3; omega
            · injection e1 with q1 q2 q3; subst q1 q2 q3
              simp at e4
              subst e4
              refine ⟨.pointer (some ⟨g, off * sz' + i.toNat * sz', none⟩), ?_, by simp only [Rel]; exact ⟨g, _, _, sz', hl, by simp [Nat.add_mul]⟩⟩
              simp [Instr.indexAt, run_underlying ht', asIntOf, h0, h1, hsz, ptr_add]
          · cases ha
    | sub id ver a b len =>
      simp only at ha
      cases hk : h id with
      | none => rw [hk] at ha; cases ha
      | some kk =>
        cases kk with
        | mp => rw [hk] at ha; cases ha
        | row ver' e' sz' es =>
          rw [hk] at ha
          simp only at ha
          split at ha
          · rename_i hc
            obtain ⟨c1, c2, rfl⟩ := hc
            have hc : 0 ≤ i ∧ i < (len : Int) := ⟨c1, c2⟩
            obtain ⟨v0, xs, l1, o1, r1, s1, on1, m1⟩ := H.blk id _ hk
            simp only [Rel] at r
            obtain ⟨g, n, c, sz0, cap, hl, rfl, h2⟩ := r
            rw [hl] at l1
            cases l1
            refine ⟨.pointer (some ⟨g, a * sz' + b + i.toNat * sz, none⟩), by simp [Instr.indexAt, run_underlying ht', asIntOf, hc, hsz, ptr_add], ?_⟩
            split at ha
            · rename_i hq
              obtain ⟨rfl, rfl⟩ := hq
              cases ha
              simp only [Rel]
              exact ⟨g, n, c, sz', hl, by simp [Nat.add_mul]⟩
            · cases ha
              simp only [Rel]
              exact ⟨g, n, c, sz', hl, by simp [Nat.add_assoc]⟩
          · cases ha
    | _ => simp at ha
  | none =>
    rw [ht] at ha
    simp only at ha
    cases hq : tArr P t with
    | none => rw [hq] at ha; cases ha
    | some q =>
      obtain ⟨n, sz, ag⟩ := q
      obtain ⟨e, ht', hag⟩ := tArr_parts hq
      obtain ⟨_, hsz⟩ := run_isAgg hag w
      rw [hq] at ha
      cases x with
      | ptr id ver a b =>
        simp only at ha
        split at ha
        · rename_i hc
          cases ha
          simp only [Rel] at r
          obtain ⟨g, n0, c0, sz0, hl, rfl⟩ := r
          refine ⟨.pointer (some ⟨g, a * sz0 + b + i.toNat * sz, none⟩), ?_, by simp only [Rel]; exact ⟨g, n0, c0, sz0, hl, by simp [Nat.add_assoc]⟩⟩
          simp [Instr.indexAt, run_underlying ht', Instr.sureAddr, asIntOf, hc, hsz, ptr_add]
        · cases ha
      | iptr cs =>
        simp only at ha
        split at ha
        · rename_i hc
          cases ha
          simp only [Rel] at r
          obtain ⟨b, o, rfl, hp⟩ := r
          refine ⟨.pointer (some ⟨b, o + i.toNat * sz, none⟩), ?_, by simp only [Rel]; exact ⟨b, _, rfl, PCells.drop _ hp⟩⟩
          simp [Instr.indexAt, run_underlying ht', Instr.sureAddr, asIntOf, hc, hsz, ptr_add]
        · cases ha
      | _ => simp at ha

/-- The address of a field. -/
def afld (P : Program) (s : TypeId) (x : AV) (f : Nat) : Option AV :=
  match tField P s f with
  | some (off, _, sz) => if sz = 0 then none else match x with
    | .ptr id ver i j => some (.ptr id ver i (j + off))
    | .iptr cs => some (.iptr (cs.drop off))
    | _ => none
  | none => none

theorem tField_parts {P : Program} {s : TypeId} {f off sz : Nat} {ag : Bool} (h : tField P s f = some (off, ag, sz)) :
    ∃ fs x, P.underlying s = some (.struct fs) ∧ fs[f]? = some x ∧ x.offset = off ∧ tAgg P x.type = some (ag, sz) := by
  unfold tField at h
  cases hd : P.underlying s with
  | none => simp [hd] at h
  | some d =>
    cases d with
    | struct fs =>
      simp only [hd] at h
      cases hf : fs[f]? with
      | none => simp [hf] at h
      | some x =>
        cases ha : tAgg P x.type with
        | none => simp [hf, ha] at h
        | some q => simp [hf, ha] at h; obtain ⟨rfl, rfl, rfl⟩ := h; exact ⟨fs, x, rfl, hf, rfl, ha⟩
    | _ => simp [hd] at h

theorem afld_rel {P : Program} {G : Gh} {w : World} {s : TypeId} {x v : AV} {f : Nat} (ha : afld P s x f = some v) {y : Value} (r : Rel G x y) :
    ∃ u, (Instr.fieldAt s y f).run P w = .ok u w ∧ Rel G v u := by
  unfold afld at ha
  cases hq : tField P s f with
  | none => rw [hq] at ha; cases ha
  | some q =>
    obtain ⟨off, ag, sz⟩ := q
    obtain ⟨fs, fx, hd, hf, rfl, hag⟩ := tField_parts hq
    obtain ⟨_, hsz⟩ := run_isAgg hag w
    rw [hq] at ha
    simp only at ha
    split at ha
    · cases ha
    · rename_i h0
      cases x with
      | ptr id ver i j =>
        cases ha
        simp only [Rel] at r
        obtain ⟨g, n0, c0, sz0, hl, rfl⟩ := r
        refine ⟨.pointer (some ⟨g, i * sz0 + j + fx.offset, none⟩), ?_, by simp only [Rel]; exact ⟨g, n0, c0, sz0, hl, by simp [Nat.add_assoc]⟩⟩
        simp [Instr.fieldAt, run_underlying hd, hf, Instr.sureAddr, fieldPlace, hsz, h0, ptr_add]
      | iptr cs =>
        cases ha
        simp only [Rel] at r
        obtain ⟨b, o, rfl, hp⟩ := r
        refine ⟨.pointer (some ⟨b, o + fx.offset, none⟩), ?_, by simp only [Rel]; exact ⟨b, _, rfl, PCells.drop _ hp⟩⟩
        simp [Instr.fieldAt, run_underlying hd, hf, Instr.sureAddr, fieldPlace, hsz, h0, ptr_add]
      | _ => simp at ha

/-- A part of a struct or an array that lies in a slot. -/
def apart (cs : List AV) (off : Nat) (ag : Bool) (sz : Nat) : Option AV :=
  if ag then (if off + sz ≤ cs.length then some (.agg ((cs.drop off).take sz)) else none) else cs[off]?

theorem apart_rel {P : Program} {G : Gh} {w : World} {t : TypeId} {cs : List AV} {off sz : Nat} {ag : Bool} {v : AV} (hag : tAgg P t = some (ag, sz)) (ha : apart cs off ag sz = some v) {vs : Array Value} (r : RelL G cs vs.toList) :
    ∃ u, (part t vs off).run P w = .ok u w ∧ Rel G v u := by
  obtain ⟨h1, h2⟩ := run_isAgg hag w
  unfold apart at ha
  cases ag with
  | true =>
    simp only [if_true] at ha
    split at ha
    · cases ha
      refine ⟨.agg (vs.extract off (off + sz)), by simp [part, h1, h2], ?_⟩
      simp only [Rel]
      refine ⟨_, rfl, ?_⟩
      have : (vs.extract off (off + sz)).toList = (vs.toList.drop off).take sz := by
        rw [Array.toList_extract, List.extract_eq_take_drop]; congr 1; omega
      rw [this]
      exact RelL.take _ (RelL.drop _ r)
    · cases ha
  | false =>
    simp only [Bool.false_eq_true, if_false] at ha
    obtain ⟨u, hu, hr⟩ := RelL.get off v r ha
    refine ⟨u, ?_, hr⟩
    simp at hu
    simp [part, h1, hu]

end Go.AM

/- One operation over the abstract state: the function, and that the machine follows it. -/
namespace Go.AM
set_option linter.unusedVariables false
set_option linter.unusedSimpArgs false
open Go Go.RowKit
set_option linter.unusedSectionVars false
variable [Glob]

/-! ### Slices of slices -/

def aint : AV → Option Int
  | .p (.v (.int _ i)) => some i
  | _ => none

theorem aint_rel {G : Gh} {x : AV} {i : Int} (h : aint x = some i) {y : Value} (r : Rel G x y) : ∃ k, y = .int k i := by
  cases x with
  | p x =>
    cases x with
    | v x =>
      simp only [Rel, PRel] at r
      subst r
      cases y <;> simp [aint] at h
      subst h
      exact ⟨_, rfl⟩
    | sl => simp [aint] at h
  | _ => simp [aint] at h

def abound : Option AV → Int → Option Int
  | none, d => some d
  | some x, _ => aint x

def isNil0 : Value → Bool
  | .slice none 0 0 => true
  | _ => false

theorem isNil0_eq {y : Value} (h : isNil0 y = true) : y = .slice none 0 0 := by
  unfold isNil0 at h
  split at h
  · rfl
  · cases h

/-- x[lo:hi], within the length. -/
def aslice (P : Program) (hh : AHeap) (t : TypeId) (x : AV) (lo hi mx : Option AV) : Option AV :=
  match tElem P t, alen x with
  | some (_, sz, _, _), some n =>
    match abound lo 0, abound hi n, abound mx n with
    | some l, some h, some m =>
      if 0 ≤ l ∧ l ≤ h ∧ h ≤ m ∧ m ≤ n then
        match x with
        | .p (.sl sz' es) => if sz' = sz then some (.p (.sl sz ((es.drop l.toNat).take (h.toNat - l.toNat)))) else none
        | .own id ver off _ => match hh id with
          | some (.row ver' _ sz' _) => if mx.isNone ∧ ver' = ver ∧ sz' = sz then some (.own id ver (off + l.toNat) (h.toNat - l.toNat)) else none
          | _ => none
        | .p (.v y) => if isNil0 y then some (.p (.v y)) else none
        | _ => none
      else none
    | _, _, _ => none
  | _, _ => none

theorem run_bound {P : Program} {w : World} {k : IntKind} {i : Int} {y : Nat} (h0 : 0 ≤ i) (h1 : i ≤ y) (code : BoundsCode) : (Instr.sliceBound (.int k i) y code).run P w = .ok i.toNat w := by
  simp [Instr.sliceBound, asIntOf, h0, h1]

theorem run_bounds {P : Program} {w : World} {G : Gh} {len cap : Nat} {lo hi mx : Option AV} {vlo vhi vmx : Option Value} {l h m : Int} (hl : abound lo 0 = some l) (hh : abound hi len = some h) (hm : abound mx len = some m)
    (rl : ∀ x y, lo = some x → vlo = some y → Rel G x y) (rh : ∀ x y, hi = some x → vhi = some y → Rel G x y) (rm : ∀ x y, mx = some x → vmx = some y → Rel G x y)
    (nl : lo.isSome = vlo.isSome) (nh : hi.isSome = vhi.isSome) (nm : mx.isSome = vmx.isSome) (hb : 0 ≤ l ∧ l ≤ h ∧ h ≤ m ∧ m ≤ len) (hc : len ≤ cap) (hmx : mx.isSome = true → hi.isSome = true) :
    (Instr.sliceBounds true len cap vlo vhi vmx).run P w = .ok (l.toNat, h.toNat, if mx.isSome then m.toNat else cap) w := by
  obtain ⟨b1, b2, b3, b4⟩ := hb
  have l1 : l ≤ (h.toNat : Int) := by omega
  have h1 : h ≤ (m.toNat : Int) := by omega
  have h2 : 0 ≤ h := by omega
  have h3 : h ≤ (cap : Int) := by omega
  have m1 : 0 ≤ m := by omega
  have m2 : m ≤ (cap : Int) := by omega
  have x1 : max h 0 = h := by omega
  have x2 : max m 0 = m := by omega
  cases lo with
  | none =>
    cases vlo with
    | some => simp at nl
    | none =>
      simp only [abound] at hl; cases hl
      cases hi with
      | none =>
        cases vhi with
        | some => simp at nh
        | none =>
          cases mx with
          | some => simp at hmx
          | none =>
            cases vmx with
            | some => simp at nm
            | none => simp only [abound] at hh; cases hh; simp [Instr.sliceBounds]
      | some x =>
        cases vhi with
        | none => simp at nh
        | some y =>
          obtain ⟨k, rfl⟩ := aint_rel hh (rh x y rfl rfl)
          cases mx with
          | none =>
            cases vmx with
            | some => simp at nm
            | none => simp [Instr.sliceBounds, Instr.sliceBound, asIntOf, h2, h3]
          | some xm =>
            cases vmx with
            | none => simp at nm
            | some y2 =>
              obtain ⟨k2, rfl⟩ := aint_rel hm (rm xm y2 rfl rfl)
              simp [Instr.sliceBounds, Instr.sliceBound, asIntOf, x1, x2, b3, h2, m1, m2]
  | some x0 =>
    cases vlo with
    | none => simp at nl
    | some y0 =>
      obtain ⟨k0, rfl⟩ := aint_rel hl (rl x0 y0 rfl rfl)
      cases hi with
      | none =>
        cases vhi with
        | some => simp at nh
        | none =>
          cases mx with
          | some => simp at hmx
          | none =>
            cases vmx with
            | some => simp at nm
            | none =>
              simp only [abound] at hh; cases hh
              have l2 : l ≤ (len : Int) := by omega
              simp [Instr.sliceBounds, Instr.sliceBound, asIntOf, b1, l2]
      | some x =>
        cases vhi with
        | none => simp at nh
        | some y =>
          obtain ⟨k, rfl⟩ := aint_rel hh (rh x y rfl rfl)
          cases mx with
          | none =>
            cases vmx with
            | some => simp at nm
            | none => simp [Instr.sliceBounds, Instr.sliceBound, asIntOf, x1, h2, h3, b1, b2]
          | some xm =>
            cases vmx with
            | none => simp at nm
            | some y2 =>
              obtain ⟨k2, rfl⟩ := aint_rel hm (rm xm y2 rfl rfl)
              simp [Instr.sliceBounds, Instr.sliceBound, asIntOf, x1, x2, b3, b2, h2, m1, m2, b1]

theorem aslice_rel {P : Program} {G : Gh} {h0 : AHeap} {w : World} (H : HRel G h0 w) {t : TypeId} {x v : AV} {lo hi mx : Option AV} (ha : aslice P h0 t x lo hi mx = some v) {y : Value} {vlo vhi vmx : Option Value} (r : Rel G x y)
    (rl : ∀ x y, lo = some x → vlo = some y → Rel G x y) (rh : ∀ x y, hi = some x → vhi = some y → Rel G x y) (rm : ∀ x y, mx = some x → vmx = some y → Rel G x y)
    (nl : lo.isSome = vlo.isSome) (nh : hi.isSome = vhi.isSome) (nm : mx.isSome = vmx.isSome) (hmx : mx.isSome = true → hi.isSome = true) :
    ∃ u, (Instr.sliceAt t y vlo vhi vmx).run P w = .ok u w ∧ Rel G v u := by
  unfold aslice at ha
  cases ht : tElem P t with
  | none => rw [ht] at ha; simp at ha
  | some q =>
    obtain ⟨e, sz, by_, zs⟩ := q
    obtain ⟨inf, z, ht', hi', hz', hs, hb, hzc⟩ := tElem_parts ht
    have hsz : (sizeOf e).run P w = .ok sz w := by simp [sizeOf, typeInfo, hi', hs]
    rw [ht] at ha
    cases hn : alen x with
    | none => rw [hn] at ha; simp at ha
    | some n =>
      rw [hn] at ha
      try simp only at ha
      cases hl : abound lo 0 with
      | none => rw [hl] at ha; simp at ha
      | some l =>
        cases hh : abound hi n with
        | none => rw [hl, hh] at ha; simp at ha
        | some h =>
          cases hm : abound mx n with
          | none => rw [hl, hh, hm] at ha; simp at ha
          | some m =>
            rw [hl, hh, hm] at ha
            try simp only at ha
            split at ha
            case isFalse => cases ha
            rename_i hc
            obtain ⟨a, c, rfl⟩ := alen_rel hn r
            have hnc : n ≤ c ∨ (x = .p (.v (.slice none 0 0)) ∧ n = 0) := by
              cases x with
              | p x =>
                cases x with
                | v x =>
                  by_cases hz : isNil0 x = true
                  · have hz' := isNil0_eq hz
                    subst hz'
                    right
                    refine ⟨rfl, ?_⟩
                    simp [alen] at hn; exact hn.symm
                  · simp only [hz, Bool.false_eq_true, if_false] at ha; cases ha
                | sl => simp only [Rel, PRel] at r; obtain ⟨_, _, _, e1, _, h2, _⟩ := r; cases e1; exact .inl h2
              | own =>
                simp only [Rel] at r
                obtain ⟨a1, n1, c1, sz1, a1', _, h1, h2, e1, _⟩ := r
                cases e1
                exact .inl (by omega)
              | sub => simp at ha
              | _ => simp [alen] at hn
            have hnc' : n ≤ c := by
              rcases hnc with h | ⟨h1, h2⟩
              · exact h
              · omega
            have hrb := run_bounds (P := P) (w := w) hl hh hm rl rh rm nl nh nm hc hnc' hmx
            have hrun : (Instr.sliceAt t (.slice a n c) vlo vhi vmx).run P w = .ok (.slice (if (if mx.isSome then m.toNat else c) = l.toNat then a else a.map (·.add (l.toNat * sz))) (h.toNat - l.toNat) ((if mx.isSome then m.toNat else c) - l.toNat)) w := by
              simp [Instr.sliceAt, Instr.slice, run_underlying ht', hrb, hsz]
            refine ⟨_, hrun, ?_⟩
            generalize hM : (if mx.isSome then m.toNat else c) = M
            have hMh : h.toNat ≤ M := by rw [← hM]; split <;> omega
            cases x with
            | p x =>
              cases x with
              | sl sz' es =>
                try simp only at ha
                split at ha
                case isFalse => cases ha
                rename_i e1
                subst e1
                cases ha
                simp only [Rel, PRel] at r ⊢
                obtain ⟨a2, n2, c2, e2, rfl, h2, h3, h4⟩ := r
                cases e2
                simp only [alen] at hn
                cases hn
                refine ⟨_, _, _, rfl, by simp; omega, by omega, ?_, ?_⟩
                · intro hnone
                  split at hnone
                  · omega
                  · cases a with
                    | none =>
                      have h7 := h3 rfl
                      have h8 : M = 0 := by rw [← hM]; split <;> omega
                      omega
                    | some a => simp at hnone
                · by_cases h0 : h.toNat - l.toNat = 0
                  · exact .inl (by rw [h0]; simp)
                  · rcases h4 with h4 | ⟨b, o, rfl, hE⟩
                    · have h5 := congrArg List.length h4; simp only [List.length_nil] at h5; omega
                    · refine .inr ⟨b, o + l.toNat * sz', ?_, PEls.take _ (PEls.drop _ hE)⟩
                      rw [if_neg (by omega)]
                      simp [ptr_add]
              | v x =>
                by_cases hz : isNil0 x = true
                · have hz' := isNil0_eq hz
                  subst hz'
                  simp only [isNil0, if_true] at ha
                  cases ha
                  simp only [Rel, PRel] at r
                  cases r
                  have : M = 0 := by rw [← hM]; split <;> omega
                  simp only [Rel, PRel]
                  have hl0 : l.toNat = 0 := by omega
                  have hh0 : h.toNat = 0 := by omega
                  simp [this, hl0, hh0]
                · simp only [hz, Bool.false_eq_true, if_false] at ha; cases ha
            | own id ver off ln =>
              try simp only at ha
              cases hk : h0 id with
              | none => rw [hk] at ha; cases ha
              | some kk =>
              cases kk with
              | mp => rw [hk] at ha; cases ha
              | row ver' e' sz' es =>
              rw [hk] at ha
              try simp only at ha
              split at ha
              case isFalse => cases ha
              rename_i e1
              obtain ⟨e1, rfl, rfl⟩ := e1
              cases ha
              obtain ⟨v0, xs, l1, _⟩ := H.blk id _ hk
              cases mx with
              | some => simp at e1
              | none =>
                simp only [Option.isSome_none, Bool.false_eq_true, if_false] at hM
                subst hM
                simp only [alen] at hn
                cases hn
                simp only [Rel] at r ⊢
                obtain ⟨a1, n1, c1, sz1, a1', hloc, h1, h2, e1, h3, h4⟩ := r
                cases e1
                rw [l1] at hloc
                cases hloc
                refine ⟨a1, n1, c1, sz', _, l1, by omega, h2, by rw [Nat.sub_sub], ?_, ?_⟩
                · intro hnone
                  split at hnone
                  · omega
                  · cases a with
                    | none => have := h3 rfl; omega
                    | some a => simp at hnone
                · intro h5
                  have h6 : 0 < n ∨ off = 0 := by
                    rcases h5 with h5 | h5
                    · left; omega
                    · right; omega
                  have h7 := h4 h6
                  rw [h7]
                  by_cases h8 : c1 - off = l.toNat
                  · rw [if_pos h8]
                    have : l.toNat = 0 := by rcases h5 with h5 | h5 <;> omega
                    simp [this]
                  · rw [if_neg h8]
                    cases a1 with
                    | none => rfl
                    | some a1 => simp [ptr_add, Nat.add_mul]
            | sub => simp at ha
            | _ => simp [alen] at hn

theorem run_bounds2 {P : Program} {w : World} {G : Gh} {len : Nat} {lo hi : Option AV} {vlo vhi : Option Value} {l h : Int} (hl : abound lo 0 = some l) (hh : abound hi len = some h)
    (rl : ∀ x y, lo = some x → vlo = some y → Rel G x y) (rh : ∀ x y, hi = some x → vhi = some y → Rel G x y)
    (nl : lo.isSome = vlo.isSome) (nh : hi.isSome = vhi.isSome) (hb : 0 ≤ l ∧ l ≤ h ∧ h ≤ len) :
    (Instr.sliceBounds false len len vlo vhi none).run P w = .ok (l.toNat, h.toNat, len) w := by
  obtain ⟨b1, b2, b3⟩ := hb
  have h2 : 0 ≤ h := by omega
  have x1 : max h 0 = h := by omega
  cases lo with
  | none =>
    cases vlo with
    | some => simp at nl
    | none =>
      simp only [abound] at hl; cases hl
      cases hi with
      | none =>
        cases vhi with
        | some => simp at nh
        | none => simp only [abound] at hh; cases hh; simp [Instr.sliceBounds]
      | some x =>
        cases vhi with
        | none => simp at nh
        | some y =>
          obtain ⟨k, rfl⟩ := aint_rel hh (rh x y rfl rfl)
          simp [Instr.sliceBounds, Instr.sliceBound, asIntOf, h2, b3]
  | some x0 =>
    cases vlo with
    | none => simp at nl
    | some y0 =>
      obtain ⟨k0, rfl⟩ := aint_rel hl (rl x0 y0 rfl rfl)
      cases hi with
      | none =>
        cases vhi with
        | some => simp at nh
        | none =>
          simp only [abound] at hh; cases hh
          simp [Instr.sliceBounds, Instr.sliceBound, asIntOf, b1, b2]
      | some x =>
        cases vhi with
        | none => simp at nh
        | some y =>
          obtain ⟨k, rfl⟩ := aint_rel hh (rh x y rfl rfl)
          simp [Instr.sliceBounds, Instr.sliceBound, asIntOf, x1, h2, b3, b1, b2]

/-- A part of an array in a row of the call's own; a part of a string. -/
def aslx (P : Program) (t : TypeId) (x : AV) (lo hi : Option AV) : Option AV :=
  match tArr P t with
  | some (n, sz, _) => match x with
    | .ptr id ver i j => match abound lo 0, abound hi n with
      | some l, some h => if 0 ≤ l ∧ l ≤ h ∧ h ≤ n ∧ l < n then some (.sub id ver i (j + l.toNat * sz) (h.toNat - l.toNat)) else none
      | _, _ => none
    | _ => none
  | none => if tStr P t = true then
      match x.val with
      | some (.string s) => match abound lo 0, abound hi s.size with
        | some l, some h => if 0 ≤ l ∧ l ≤ h ∧ h ≤ s.size then some (.p (.v (.string (s.extract l.toNat h.toNat)))) else none
        | _, _ => none
      | _ => none
    else none

theorem aslx_rel {P : Program} {G : Gh} {w : World} {t : TypeId} {x v : AV} {lo hi : Option AV} (ha : aslx P t x lo hi = some v) {y : Value} {vlo vhi : Option Value} (r : Rel G x y)
    (rl : ∀ x y, lo = some x → vlo = some y → Rel G x y) (rh : ∀ x y, hi = some x → vhi = some y → Rel G x y) (nl : lo.isSome = vlo.isSome) (nh : hi.isSome = vhi.isSome) :
    ∃ u, (Instr.sliceAt t y vlo vhi none).run P w = .ok u w ∧ Rel G v u := by
  unfold aslx at ha
  split at ha
  · rename_i n sz ag ht
    obtain ⟨e, hu, hag⟩ := tArr_parts ht
    obtain ⟨_, hsz⟩ := run_isAgg hag w
    split at ha
    · rename_i id ver i j
      split at ha
      · rename_i l h hl hh
        split at ha
        · rename_i hc
          cases ha
          obtain ⟨c1, c2, c3, c4⟩ := hc
          have hb := run_bounds2 (P := P) (w := w) hl hh rl rh nl nh ⟨c1, c2, c3⟩
          simp only [Rel] at r
          obtain ⟨g, n0, c0, sz0, hloc, rfl⟩ := r
          have hne : ¬ n = l.toNat := by omega
          refine ⟨.slice (some ⟨g, i * sz0 + j + l.toNat * sz, none⟩) (h.toNat - l.toNat) (n - l.toNat), ?_, by simp only [Rel]; exact ⟨g, n0, c0, sz0, n - l.toNat, hloc, by simp [Nat.add_assoc], by omega⟩⟩
          simp [Instr.sliceAt, run_underlying hu, Instr.sureAddr, hb, hsz, hne, ptr_add]
        · cases ha
      · cases ha
    · cases ha
  · split at ha
    · rename_i hs
      split at ha
      · rename_i s hv
        split at ha
        · rename_i l h hl hh
          split at ha
          · rename_i hc
            cases ha
            have hb := run_bounds2 (P := P) (w := w) hl hh rl rh nl nh hc
            have e := AV.val_rel hv r
            refine ⟨.string (s.extract l.toNat h.toNat), ?_, by simp [Rel, PRel]⟩
            simp [Instr.sliceAt, Instr.slice, run_underlying (tStr_run hs), e, hb]
          · cases ha
        · cases ha
      · cases ha
    · cases ha

end Go.AM

/- Structs and slices that are built; one operation as a function. -/
namespace Go.AM
set_option linter.unusedVariables false
set_option linter.unusedSimpArgs false
open Go Go.RowKit
set_option linter.unusedSectionVars false
variable [Glob]

def afill (place : Nat → Option (Nat × Nat)) (cells : List AV) : List (Nat × AV) → Option (List AV)
  | [] => some cells
  | (i, v) :: rest =>
    match place i with
    | none => none
    | some (off, size) => if (cellsOf v).length = size ∧ off + size ≤ cells.length ∧ (cellsOf v).all AV.one = true then afill place (splice cells off (cellsOf v)) rest else none

theorem foldl_fill (off : Nat) : ∀ (l : List Value) (j : Nat) (cells : Array Value), off + j + l.length ≤ cells.size →
    ((l.zipIdx j).foldl (fun cs (x : Value × Nat) => cs.setIfInBounds (off + x.2) x.1) cells).toList = splice cells.toList (off + j) l
  | [], j, cells, _ => by simp [splice]
  | v :: l, j, cells, h => by
    simp only [List.zipIdx_cons, List.foldl_cons, List.length_cons] at h ⊢
    rw [foldl_fill off l (j + 1) _ (by simp; omega)]
    have hlen : cells.toList.length = cells.size := Array.length_toList
    simp only [splice, Array.toList_setIfInBounds, List.length_cons]
    generalize cells.toList = L at *
    have h1 : (L.set (off + j) v).take (off + (j + 1)) = L.take (off + j) ++ [v] := by
      rw [show off + (j + 1) = off + j + 1 by omega, List.take_add_one, List.take_set_of_le (by omega)]
      rw [List.getElem?_set_self (by omega)]; rfl
    rw [h1, List.drop_set_of_lt (by omega), List.append_assoc]
    simp only [List.singleton_append, List.cons_append]
    rw [show off + (j + 1) + l.length = off + j + (l.length + 1) by omega, List.nil_append]

theorem RelL.splice {G : Gh} {xs ys : List AV} {vs us : List Value} (h : RelL G xs vs) (k : RelL G ys us) (o : Nat) : RelL G (AM.splice xs o ys) (AM.splice vs o us) := by
  unfold AM.splice
  rw [k.length]
  exact RelL.append (RelL.take _ h) (RelL.append k (RelL.drop _ h))

theorem afill_rel {G : Gh} {place : Nat → Option (Nat × Nat)} : ∀ {parts : List (Nat × AV)} {cells out : List AV} {cv : Array Value} {vparts : List (Nat × Value)}, afill place cells parts = some out → RelL G cells cv.toList →
    RelL G (parts.map (·.2)) (vparts.map (·.2)) → parts.map (·.1) = vparts.map (·.1) → ∃ o : Array Value, Instr.fill place cv vparts = some o ∧ RelL G out o.toList
  | [], _, _, cv, [], h, hc, _, _ => by simp only [afill] at h; cases h; exact ⟨cv, rfl, hc⟩
  | [], _, _, _, _ :: _, _, _, _, h => by simp at h
  | _ :: _, _, _, _, [], _, _, _, h => by simp at h
  | (i, x) :: parts, cells, out, cv, (i', y) :: vparts, h, hc, hr, hi => by
    simp only [List.map_cons, List.cons.injEq] at hi
    obtain ⟨rfl, hi⟩ := hi
    simp only [List.map_cons, RelL] at hr
    simp only [afill] at h
    cases hp : place i with
    | none => rw [hp] at h; cases h
    | some q =>
      obtain ⟨off, size⟩ := q
      rw [hp] at h
      simp only at h
      split at h
      · rename_i hq
        obtain ⟨q1, q2, q3⟩ := hq
        have hone : ∀ c ∈ cellsOf x, c.one = true := by simpa using q3
        have rx := cellsOf_rel hone hr.1
        have hl := rx.length
        have hcl := hc.length
        have hsz : y.cells.size = size := by rw [← Array.length_toList]; omega
        have hcs : cv.size = cells.length := by rw [← Array.length_toList]; omega
        have hfold : (y.cells.zipIdx.foldl (fun cs (x : Value × Nat) => cs.setIfInBounds (off + x.2) x.1) cv).toList = AM.splice cv.toList off y.cells.toList := by
          rw [← Array.foldl_toList, Array.toList_zipIdx]
          have := foldl_fill off y.cells.toList 0 cv (by simp; omega)
          simpa using this
        obtain ⟨o, ho, hro⟩ := afill_rel (cv := y.cells.zipIdx.foldl (fun cs (x : Value × Nat) => cs.setIfInBounds (off + x.2) x.1) cv) h (by rw [hfold]; exact RelL.splice hc rx off) hr.2 hi
        refine ⟨o, ?_, hro⟩
        simp only [Instr.fill, hp]
        rw [if_neg (by simp; omega)]
        exact ho
      · cases h

def abuild (P : Program) (t : TypeId) (parts : List (Nat × AV)) : Option AV :=
  match tZero P t, tStruct P t with
  | some zs, some pl => if zs.all Value.oneCell' = true then (afill (pl[·]?) (pv zs) parts).map AV.agg else none
  | _, _ => none

theorem run_places {P : Program} {w : World} : ∀ {fs : List Field} {l : List (Nat × Nat)}, (fs.mapM fun x => (P.info? x.type).map fun i => (x.offset, i.size)) = some l →
    (fs.mapM fun f => (do pure (f.offset, ← sizeOf f.type) : Sem (Nat × Nat))).run P w = .ok l w
  | [], l, h => by simp at h; subst h; simp
  | f :: fs, l, h => by
    rw [List.mapM_cons] at h
    cases hi : P.info? f.type with
    | none => simp [hi] at h
    | some i =>
      simp only [hi, Option.map_some, Option.bind_eq_bind, Option.bind_some] at h
      cases hm : (fs.mapM fun x => (P.info? x.type).map fun i => (x.offset, i.size)) with
      | none => simp [hm] at h
      | some l' =>
        simp [hm] at h
        subst h
        have ih := run_places (w := w) hm
        rw [List.mapM_cons, Sem.run_bind]
        have : (do pure (f.offset, ← sizeOf f.type) : Sem (Nat × Nat)).run P w = .ok (f.offset, i.size) w := by simp [sizeOf, typeInfo, hi]
        rw [this, Result.andThen_ok, Sem.run_bind, ih, Result.andThen_ok]
        rfl

theorem abuild_rel {P : Program} {G : Gh} {w : World} {t : TypeId} {parts : List (Nat × AV)} {v : AV} (h : abuild P t parts = some v) {vparts : List (Nat × Value)} (hr : RelL G (parts.map (·.2)) (vparts.map (·.2)))
    (hi : parts.map (·.1) = vparts.map (·.1)) : ∃ u, (Instr.build t vparts.toArray).run P w = .ok u w ∧ Rel G v u := by
  unfold abuild at h
  cases hz : tZero P t with
  | none => rw [hz] at h; simp at h
  | some zs =>
    cases hs : tStruct P t with
    | none => rw [hz, hs] at h; simp at h
    | some pl =>
      rw [hz, hs] at h
      simp only at h
      split at h
      · rw [Option.map_eq_some_iff] at h
        obtain ⟨out, ho, rfl⟩ := h
        unfold tZero at hz
        cases hinf : P.info? t with
        | none => simp [hinf] at hz
        | some inf =>
          cases hzz : inf.zero with
          | none => simp [hinf, hzz] at hz
          | some z =>
            simp [hinf, hzz] at hz
            subst hz
            unfold tStruct at hs
            cases hd : P.underlying t with
            | none => simp [hd] at hs
            | some d =>
              cases d with
              | struct fs =>
                simp only [hd] at hs
                obtain ⟨o, hfill, hro⟩ := afill_rel (cv := z.cells) (vparts := vparts) ho (pv_rel z.cells.toList) hr hi
                refine ⟨.agg o, ?_, by simp only [Rel]; exact ⟨o, rfl, hro⟩⟩
                have hpl := run_places (w := w) hs
                have hmm : (fs.mapM fun f => (do pure (f.offset, ← sizeOf f.type) : Sem (Nat × Nat))).run P w = .ok pl.toArray w := by
                  rw [Array.mapM_eq_mapM_toList, Sem.run_map, hpl]; rfl
                have hplace : (fun i : Nat => pl.toArray[i]?) = (fun i : Nat => pl[i]?) := by funext i; simp
                simp only [Instr.build, zeroValue, typeInfo, Sem.run_bind, run_program, Result.andThen_ok, hinf, Sem.run_pure, hzz, run_underlying hd, hmm, hplace, hfill]
              | _ => simp [hd] at hs
      · cases h

end Go.AM

/- '==' and '!=' of bools, strings, structs of such cells, and of slices with nil. -/
namespace Go.AM
set_option linter.unusedVariables false
set_option linter.unusedSimpArgs false
open Go Go.RowKit
set_option linter.unusedSectionVars false
variable [Glob]

inductive EK where
  | i | b | s
def ekOf (P : Program) (t : TypeId) : Option EK :=
  match P.underlying t with
  | some (.int _) => some .i
  | some .bool => some .b
  | some .string => some .s
  | _ => none
/-- How values of a type are compared: a struct?, then the places of its parts. -/
def tEq (P : Program) (t : TypeId) : Option (Bool × List (Nat × EK)) :=
  match P.underlying t with
  | some (.struct fs) => if P.stoodInHeld t = false ∧ P.eqGuardType P.depth t = false ∧ fs.toList.all (fun f => f.name != "_" && (tAgg P f.type == some (false, 1))) = true then (fs.toList.mapM fun f => (ekOf P f.type).map fun k => (f.offset, k)).map fun l => (true, l) else none
  | _ => (ekOf P t).map fun k => (false, [(0, k)])
def tSlc (P : Program) (t : TypeId) : Bool := match P.underlying t with | some (.slice _) => true | _ => false

def aeq1 : EK → AV → AV → Option Bool
  | .i, .p (.v (.int k a)), .p (.v (.int k' b)) => if k = k' then some (decide (a = b)) else none
  | .b, .p (.v (.bool a)), .p (.v (.bool b)) => some (a == b)
  | .s, .p (.v (.string a)), .p (.v (.string b)) => some (a == b)
  | _, _, _ => none

def aeqL (xs ys : List AV) : List (Nat × EK) → Option Bool
  | [] => some true
  | (o, k) :: r => match xs[o]?, ys[o]? with
    | some x, some y => match aeq1 k x y, aeqL xs ys r with
      | some a, some b => some (a && b)
      | _, _ => none
    | _, _ => none

def aeqv (P : Program) (t : TypeId) (x y : AV) : Option Bool :=
  match tEq P t, x, y with
  | some (true, l), .agg xs, .agg ys => aeqL xs ys l
  | some (false, [(_, k)]), x, y => aeq1 k x y
  | none, x, .p (.v (.slice none 0 0)) => if tSlc P t = true then anil x else none
  | _, _, _ => none

section
variable {P : Program} {G : Gh} {w : World}

theorem aeq1_run {t : TypeId} {k : EK} {x y : AV} {r : Bool} {u v : Value} (d : Nat) (hk : ekOf P t = some k) (h : aeq1 k x y = some r) (rx : Rel G x u) (ry : Rel G y v) : (Op.equalIn (d + 1) t u v).run P w = .ok r w := by
  unfold aeq1 at h
  split at h
  · split at h
    · rename_i e
      cases h
      subst e
      simp only [Rel, PRel] at rx ry
      subst rx ry
      unfold ekOf at hk
      split at hk <;> try (cases hk; done)
      rename_i hu
      simp [Op.equalIn, run_underlying hu]
      rfl
    · cases h
  · cases h
    simp only [Rel, PRel] at rx ry
    subst rx ry
    unfold ekOf at hk
    split at hk <;> try (cases hk; done)
    rename_i hu
    simp [Op.equalIn, run_underlying hu]
  · cases h
    simp only [Rel, PRel] at rx ry
    subst rx ry
    unfold ekOf at hk
    split at hk <;> try (cases hk; done)
    rename_i hu
    simp [Op.equalIn, run_underlying hu]
  · cases h

theorem aeqL_run {d : Nat} {xs ys : List AV} {us vs : Array Value} (rx : RelL G xs us.toList) (ry : RelL G ys vs.toList) : ∀ {fs : List Field} {l : List (Nat × EK)} {r : Bool}, fs.all (fun f => f.name != "_" && (tAgg P f.type == some (false, 1))) = true →
    (fs.mapM fun f => (ekOf P f.type).map fun k => (f.offset, k)) = some l → aeqL xs ys l = some r → (Op.eqFields (d + 1) us vs fs).run P w = .ok r w
  | [], l, r, _, hl, h => by
    simp at hl
    subst hl
    simp only [aeqL] at h
    cases h
    simp [Op.eqFields]
  | f :: fs, l, r, ha, hl, h => by
    simp only [List.all_cons, Bool.and_eq_true, bne_iff_ne, beq_iff_eq] at ha
    obtain ⟨⟨h1, h2⟩, h3⟩ := ha
    simp only [List.mapM_cons, Option.bind_eq_bind, Option.bind_eq_some_iff, Option.map_eq_some_iff, Option.pure_def, Option.some.injEq] at hl
    obtain ⟨p, ⟨k, hk, rfl⟩, l', hl', rfl⟩ := hl
    simp only [aeqL] at h
    split at h
    · rename_i x y hx hy
      split at h
      · rename_i a b e1 e2
        cases h
        have ih := aeqL_run (d := d) rx ry (by simpa using h3) hl' e2
        obtain ⟨u, p1, p2⟩ := apart_rel (w := w) h2 (show apart xs f.offset false 1 = some x by simp [apart, hx]) rx
        obtain ⟨v, q1, q2⟩ := apart_rel (w := w) h2 (show apart ys f.offset false 1 = some y by simp [apart, hy]) ry
        have e := aeq1_run (w := w) d hk e1 p2 q2
        rw [Op.eqFields]
        simp only [if_pos h1, Sem.run_bind, p1, q1, e, Result.andThen_ok]
        cases a
        · simp
        · simpa using ih
      · cases h
    · cases h

theorem aeqv_run {t : TypeId} {x y : AV} {r : Bool} {u v : Value} (h : aeqv P t x y = some r) (rx : Rel G x u) (ry : Rel G y v) (ox oy : Operand) :
    (do eqGuard .eql t ox oy u v; binOp .eql t u v : Sem Value).run P w = .ok (.bool r) w ∧ (do eqGuard .neq t ox oy u v; binOp .neq t u v : Sem Value).run P w = .ok (.bool !r) w := by
  unfold aeqv at h
  split at h
  · rename_i l xs ys ht
    unfold tEq at ht
    split at ht
    · rename_i fs hu
      split at ht
      · rename_i hc
        simp only [Option.map_eq_some_iff, Prod.mk.injEq, true_and, exists_eq_right] at ht
        simp only [Rel] at rx ry
        obtain ⟨us, rfl, rx⟩ := rx
        obtain ⟨vs, rfl, ry⟩ := ry
        have e := aeqL_run (d := 9998) (w := w) rx ry hc.2.2 ht h
        have e2 : (Op.equal t (.agg us) (.agg vs)).run P w = .ok r w := by
          unfold Op.equal Op.maxDepth
          have hf : P.fieldsOf t = fs := by simp [Program.fieldsOf, hu]
          rw [run_equalIn_struct (P := P) w 9999 t us vs (by rw [hf]; exact hu) hc.1, hf]
          exact e
        refine ⟨?_, ?_⟩
        · simp [eqGuard, hc.2.1, binOp, e2]
        · simp [eqGuard, hc.2.1, binOp, e2]
      · cases ht
    · simp at ht
  · rename_i o k ht
    have hk : ekOf P t = some k := by
      unfold tEq at ht
      split at ht
      · split at ht
        · simp at ht
        · cases ht
      · simp only [Option.map_eq_some_iff, Prod.mk.injEq, List.cons.injEq, and_true, true_and] at ht
        obtain ⟨k', h1, h2, rfl⟩ := ht
        exact h1
    have e := aeq1_run (w := w) 9999 hk h rx ry
    unfold aeq1 at h
    split at h
    · split at h
      · rename_i e'
        cases h
        subst e'
        simp only [Rel, PRel] at rx ry
        subst rx ry
        refine ⟨?_, ?_⟩
        · simp [eqGuard, binOp, Op.intCmp]; rfl
        · simp [eqGuard, binOp, Op.intCmp]; rfl
      · cases h
    · cases h
      simp only [Rel, PRel] at rx ry
      subst rx ry
      refine ⟨?_, ?_⟩
      · simp [eqGuard, binOp, Op.equal, Op.maxDepth, e]
      · simp [eqGuard, binOp, Op.equal, Op.maxDepth, e]
    · cases h
      simp only [Rel, PRel] at rx ry
      subst rx ry
      refine ⟨?_, ?_⟩
      · simp [eqGuard, binOp, Op.stringOp, ← beq_toListBytes]
      · simp [eqGuard, binOp, Op.stringOp, ← beq_toListBytes]
    · cases h
  · rename_i ht
    split at h
    · rename_i hs
      simp only [Rel, PRel] at ry
      subst ry
      obtain ⟨a, n, c, rfl, e⟩ := anil_rel h rx
      have hu : ∃ e, P.underlying t = some (.slice e) := by
        unfold tSlc at hs
        split at hs
        · exact ⟨_, by assumption⟩
        · cases hs
      obtain ⟨et, hu⟩ := hu
      have e2 : (Op.equal t (.slice a n c) (.slice none 0 0)).run P w = .ok r w := by
        have key : ∀ d, (Op.equalIn (d + 1) t (.slice a n c) (.slice none 0 0)).run P w = .ok r w := fun d => by
          cases a with
          | none => simp at e; subst e; simp [Op.equalIn, run_underlying hu]
          | some a => simp at e; subst e; simp [Op.equalIn, run_underlying hu]
        exact key 9999
      refine ⟨?_, ?_⟩
      · simp [eqGuard, binOp, e2]
      · simp [eqGuard, binOp, e2]
    · cases h
  · cases h
end

end Go.AM

/- The operations together. -/
namespace Go.AM
set_option linter.unusedVariables false
set_option linter.unusedSimpArgs false
open Go Go.RowKit
set_option linter.unusedSectionVars false
variable [Glob]

theorem build_slice {P : Program} {G : Gh} {h : AHeap} {w : World} (H : HRel G h w) {nm : Nat} (hn : h nm = none) {t e : TypeId} {sz by_ len : Nat} {zs : List Value} (ht : tElem P t = some (e, sz, by_, zs)) (hzl : zs.length = sz)
    (hlim : len * sz ≤ 16777216) (hlen : len ≤ 16777216) (hone : zs.all Value.oneCell' = true) {parts : List (Nat × AV)} {out : List AV} (ha : afill (fun i => some (i * sz, sz)) (List.replicate len (pv zs)).flatten parts = some out)
    {es : List (List AV)} (hes : es.flatten = out) (hel : es.length = len) (hsz : ∀ x ∈ es, x.length = sz) (ho1 : out.all AV.one = true)
    {vparts : List (Nat × Value)} (hr : RelL G (parts.map (·.2)) (vparts.map (·.2))) (hi : parts.map (·.1) = vparts.map (·.1)) :
    ∃ u G' w', (Instr.buildSlice t len vparts.toArray).run P w = .ok u w' ∧ G.Le G' ∧ HRel G' (hp h [(nm, .row 0 e sz es)]) w' ∧ Rel G' (.own nm 0 0 len) u := by
  obtain ⟨i, z, ht', hinf, hz', hs, hb, hzc⟩ := tElem_parts ht
  have hz1 : z.cells.toList.length = sz := by rw [hzc]; exact hzl
  have hzz : z.cells = zs.toArray := by rw [← hzc]
  have hmk : (madeCells z.cells (len * sz)).toList = (List.replicate len zs).flatten := by rw [hzz, ← hzl]; exact toList_madeCells zs len
  have hrep : (List.replicate len (pv zs)).flatten = ((List.replicate len zs).flatten).map fun v => AV.p (.v v) := by rw [List.map_flatten, List.map_replicate]; rfl
  obtain ⟨o, hfill, hro⟩ := afill_rel (cv := madeCells z.cells (len * sz)) (vparts := vparts) ha (by rw [hmk, hrep]; exact pv_rel _) hr hi
  have hall : ∀ c ∈ out, c.one = true := by simpa using ho1
  have hol := hro.length
  have hfl := flatten_len hsz
  rw [hes, hel] at hfl
  have hosz : o.size = len * sz := by rw [← Array.length_toList]; omega
  have how := World.ownsRow_lit (base := G.w0.heap.size) (e := e) w o len H.below.size (by simp [maxLen]; omega) hosz
  obtain ⟨G', l, hh, rr⟩ := new_row H hn (World.grownBy_alloc w _ none) how (es := es) (by rw [hes]; exact hro) hsz hel (RelL.one hro hall)
  refine ⟨_, G', _, ?_, l, hh, rr⟩
  have hlim' : ¬ (16777216 < len * sz) := by omega
  by_cases h0 : len * sz = 0
  · have hmz : madeCells z.cells (len * sz) = #[] := by rw [h0]; simp [madeCells]
    rw [hmz] at hfill
    rw [h0] at hlim'
    have e0 : Array.map (fun _ : Nat => (default : Value)) (Array.range 0) = #[] := by simp [Array.range_zero']
    simp [Instr.buildSlice, run_underlying ht', sizeOf, typeInfo, hinf, hs, h0, e0, hfill, newRow]
  · have hfill' : Instr.fill (fun i => some (i * sz, sz)) ((Array.range (len * sz)).map (z.cells[· % z.cells.size]!)) vparts = some o := hfill
    simp [Instr.buildSlice, run_underlying ht', sizeOf, typeInfo, zeroValue, hinf, hs, hz', h0, hlim', hfill', newRow]

/-- Elements of sz cells each. -/
def chunks {α : Type} (sz : Nat) : Nat → List α → List (List α)
  | 0, _ => []
  | n + 1, l => l.take sz :: chunks sz n (l.drop sz)

theorem chunks_flat {α : Type} (sz : Nat) : ∀ (n : Nat) (l : List α), l.length = n * sz → (chunks sz n l).flatten = l ∧ (chunks sz n l).length = n ∧ ∀ x ∈ chunks sz n l, x.length = sz
  | 0, l, h => by
    have : l = [] := List.eq_nil_of_length_eq_zero (by simpa using h)
    subst this; simp [chunks]
  | n + 1, l, h => by
    rw [Nat.succ_mul] at h
    obtain ⟨h1, h2, h3⟩ := chunks_flat sz n (l.drop sz) (by rw [List.length_drop]; omega)
    refine ⟨by simp only [chunks, List.flatten_cons, h1, List.take_append_drop], by simp [chunks, h2], fun x hx => ?_⟩
    simp only [chunks] at hx
    cases hx with
    | head => rw [List.length_take]; omega
    | tail _ hx => exact h3 x hx

/-- A slice of bytes? -/
def tBytes (P : Program) (t : TypeId) : Bool := match tElem P t with
  | some (e, 1, _, _) => match P.underlying e with | some (.int .u8) => true | _ => false
  | _ => false
/-- The bytes of a row. -/
def abytes (es : List (List AV)) : Option ByteArray :=
  if es.all (fun c => match c with | [.p (.v (.int .u8 _))] => true | _ => false) = true then
      some (es.foldl (fun r c => match c with | [.p (.v (.int .u8 n))] => r.push (UInt8.ofNat n.toNat) | _ => r) ByteArray.empty) else none

abbrev Eff := List (Nat × Blk) × List (Nat × Blk) × AV

/-- A block that a value names. -/
def ablk (h : AHeap) : AV → List (Nat × Blk)
  | .own id _ _ _ => match h id with | some k => [(id, k)] | none => []
  | .ptr id _ _ _ => match h id with | some k => [(id, k)] | none => []
  | _ => []

/-- A row that a value names. -/
def ablko (h : AHeap) : AV → List (Nat × Blk)
  | .own id _ _ _ => match h id with | some k => [(id, k)] | none => []
  | .sub id _ _ _ _ => match h id with | some k => [(id, k)] | none => []
  | _ => []

def abuiltin (P : Program) (h : AHeap) (nm : Nat) (b : Builtin) (ts : List TypeId) (args : List AV) : Option Eff :=
  match b, ts, args with
  | .len, [t], [x] =>
    match tLen P t with
    | some n => some ([], [], .p (.v (.int .i64 n)))
    | none => match tElem P t with
      | some _ => (alen x).map fun (n : Nat) => ([], [], .p (.v (.int .i64 (n : Int))))
      | none => if tStr P t = true then (match x.val with | some (.string s) => some ([], [], .p (.v (.int .i64 (s.size : Int)))) | _ => none) else none
  | .append, [t, t'], [s, x] => if t' = t then (aapp P h nm t s x).map fun q => (q.1 ++ ablko h x, q.2.1, q.2.2) else none
  | .max, _, [x, y] => match x.val, y.val with
    | some (.int k a), some (.int k' b) => if k = k' then some ([], [], .p (.v (.int k (if b > a then b else a)))) else none
    | _, _ => none
  | .min, _, [x, y] => match x.val, y.val with
    | some (.int k a), some (.int k' b) => if k = k' then some ([], [], .p (.v (.int k (if b < a then b else a)))) else none
    | _, _ => none
  | _, _, _ => none

/-- '==' and '!=' of what is no number. -/
def aeqx (P : Program) (o : BinOp) (t : TypeId) (x y : AV) : Option Eff :=
  match o with
  | .eql => (aeqv P t x y).map fun b => ([], [], .p (.v (.bool b)))
  | .neq => (aeqv P t x y).map fun b => ([], [], .p (.v (.bool !b)))
  | _ => none

theorem aeqx_some {P : Program} {o : BinOp} {t : TypeId} {x y : AV} {rd wr : List (Nat × Blk)} {v : AV} (h : aeqx P o t x y = some (rd, wr, v)) : rd = [] ∧ wr = [] ∧ ∃ r, aeqv P t x y = some r ∧ ((o = .eql ∧ v = .p (.v (.bool r))) ∨ (o = .neq ∧ v = .p (.v (.bool !r)))) := by
  unfold aeqx at h
  split at h
  · simp only [Option.map_eq_some_iff, Prod.mk.injEq] at h
    obtain ⟨r, h1, h2, h3, h4⟩ := h
    exact ⟨h2.symm, h3.symm, r, h1, .inl ⟨rfl, h4.symm⟩⟩
  · simp only [Option.map_eq_some_iff, Prod.mk.injEq] at h
    obtain ⟨r, h1, h2, h3, h4⟩ := h
    exact ⟨h2.symm, h3.symm, r, h1, .inr ⟨rfl, h4.symm⟩⟩
  · cases h

/-- An operation that is no call of a Go function: what it reads and writes, and its value. -/
def aexec (P : Program) (op : Op) (ev : Operand → AV) (h : AHeap) (nm : Nat) : Option Eff :=
  match op with
  | .move x | .assign x => some ([], [], ev x)
  | .pick c a b => match (ev c).val with
    | some (.bool t) => some ([], [], if t then ev a else ev b)
    | _ => none
  | .alloc e => match tZero P e with
    | some zs => if zs.all Value.oneCell' = true then some ([], [(nm, .row 0 e (pv zs).length [pv zs])], .ptr nm 0 0 0) else none
    | none => none
  | .box e x => if (cellsOf (ev x)).all AV.one = true then some ([], [(nm, .row 0 e (cellsOf (ev x)).length [cellsOf (ev x)])], .ptr nm 0 0 0) else none
  | .build t parts => (abuild P t (parts.toList.map fun p => (p.1, ev p.2))).map fun v => ([], [], v)
  | .buildSlice t len parts => match tElem P t with
    | some (e, sz, _, zs) =>
      if zs.length = sz ∧ len * sz ≤ 16777216 ∧ len ≤ 16777216 ∧ zs.all Value.oneCell' = true then
        match afill (fun i => some (i * sz, sz)) (List.replicate len (pv zs)).flatten (parts.toList.map fun p => (p.1, ev p.2)) with
        | some out => if out.length = len * sz ∧ out.all AV.one = true then some ([], [(nm, .row 0 e sz (chunks sz len out))], .own nm 0 0 len) else none
        | none => none
      else none
    | none => none
  | .load t x => (aload P h t (ev x)).map fun v => (ablk h (ev x), [], v)
  | .store t x v => (astore P h t (ev x) (ev v)).map fun q => ([(q.1, q.2.1)], [(q.1, q.2.2)], .p (.v undef))
  | .nilCheck x => match ev x with
    | .ptr id ver i j => some ([], [], .ptr id ver i j)
    | .iptr cs => some ([], [], .iptr cs)
    | .fn (.func f) a b => some ([], [], .fn (.func f) a b)
    | _ => none
  | .binOp o t x y _ => match (ev x).val, (ev y).val with
    | some a, some b => match abin o a b with
      | some u => some ([], [], .p (.v u))
      | none => aeqx P o t (ev x) (ev y)
    | _, _ => aeqx P o t (ev x) (ev y)
  | .unOp .not _ x => match (ev x).val with
    | some (.bool b) => some ([], [], .p (.v (.bool !b)))
    | _ => none
  | .convert s d x => match tKind P s, tKind P d, (ev x).val with
    | some _, some k, some (.int _ n) => some ([], [], .p (.v (.int k (k.wrap n))))
    | _, _, _ => if tStr P d = true ∧ tBytes P s = true then (match asrc h 1 (ev x) with
        | some es => (abytes es).map fun b => (ablko h (ev x), [], .p (.v (.string b)))
        | none => none) else none
  | .makeFunc f a b => some ([], [], .fn f (a.toList.map ev) (b.toList.map ev))
  | .makeSlice t l c => match tElem P t, (ev l).val, (ev c).val with
    | some (e, sz, by_, zs), some (.int _ n), some (.int _ m) =>
      if zs.length = sz ∧ zs.all Value.oneCell' = true ∧ by_ ≤ 1000 ∧ 0 ≤ n ∧ Small n.toNat ∧ m = n then some ([], [(nm, .row 0 e sz (List.replicate n.toNat (pv zs)))], .own nm 0 0 n.toNat) else none
    | _, _, _ => none
  | .slice t x lo hi mx => if mx.isSome = true → hi.isSome = true then
      (match tElem P t with
        | some _ => (aslice P h t (ev x) (lo.map ev) (hi.map ev) (mx.map ev)).map fun v => (ablko h (ev x), [], v)
        | none => if mx.isSome = true then none else (aslx P t (ev x) (lo.map ev) (hi.map ev)).map fun v => ([], [], v))
      else none
  | .fieldAddr s x f => (afld P s (ev x) f).map fun v => ([], [], v)
  | .field s x f => match tField P s f, ev x with
    | some (off, ag, sz), .agg cs => (apart cs off ag sz).map fun v => ([], [], v)
    | _, _ => none
  | .indexAddr t x i => match (ev i).val with
    | some (.int _ n) => (aidx P h t (ev x) n).map fun v => (ablko h (ev x), [], v)
    | _ => none
  | .index t x i => match (ev i).val with
    | some (.int _ n) => match tArr P t with
      | some (len, sz, ag) => match ev x with
        | .agg cs => if 0 ≤ n ∧ n < len then (apart cs (n.toNat * sz) ag sz).map fun v => ([], [], v) else none
        | _ => none
      | none => match (ev x).val with
        | some (.string s) => if tStr P t = true ∧ 0 ≤ n then (s[n.toNat]?).map fun b => ([], [], .p (.v (.int .u8 b.toNat))) else none
        | _ => none
    | _ => none
  | .extract x i => match ev x with
    | .tup cs => (cs[i]?).map fun v => ([], [], v)
    | _ => none
  | .call { callee := .builtin b, args, argTypes } => abuiltin P h nm b argTypes.toList (args.toList.map ev)
  | _ => none

/-- The machine does it. -/
def OpRun (P : Program) (o : Oper) (a : Act) (w : World) (G : Gh) (h : AHeap) (wr : List (Nat × Blk)) (v : AV) : Prop :=
  ∃ u G' w', ((execOp a.eval o).run P w = .ok (.value u) w' ∨ ((execOp a.eval o).run P w = .ok .skip w' ∧ u = undef)) ∧ G.Le G' ∧ HRel G' (hp h wr) w' ∧ Rel G' v u

end Go.AM
