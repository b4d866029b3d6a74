/- The state: slots and blocks against the machine's frame and world; the walk of one operation after the other; the rules of control. -/
import Derived.Test.YtmljoaiedihoiaaDoorAm1
import Derived.Deep.LoopGhost
namespace Go.AM
set_option linter.unusedVariables false
set_option linter.unusedSimpArgs false
open Go Go.RowKit
set_option linter.unusedSectionVars false
variable [Glob]

abbrev Slots := List (Nat × AV)
def look : Slots → Nat → AV
  | [], _ => .junk
  | (j, v) :: r, i => if i = j then v else look r i

/-- The block of the machine in which a row lies. -/
def cbOf (G : Gh) (id : Nat) : Blk → Option Nat
  | .row ver _ _ _ => (G.loc id ver).bind fun x => x.1.ownBlock

def BRel (G : Gh) (w : World) (id : Nat) : Blk → Prop
  | .row ver e sz es => ∃ v xs, G.loc id ver = some (v, sz) ∧ w.ownsRow G.w0.heap.size e sz v es.length xs ∧ RelL G es.flatten xs ∧
      (∀ x ∈ es, x.length = sz) ∧ (∀ x ∈ xs, x.oneCell' = true) ∧ ∀ g, v.ownBlock = some g → ∀ o, G.M g o = none

structure HRel (G : Gh) (h : AHeap) (w : World) : Prop where
  below : Below G.w0.heap.size G.w0 w
  imm : ∀ b o v, G.M b o = some v → w.cell? ⟨b, o, none⟩ = some v ∧ v.oneCell' = true
  blk : ∀ id k, h id = some k → BRel G w id k
  sep : ∀ i j k l b, i ≠ j → h i = some k → h j = some l → cbOf G i k = some b → cbOf G j l ≠ some b
  dom : ∀ id ver x, G.loc id ver = some x → h id ≠ none
  top : ∀ id k v, h id = some k → k.ver < v → G.loc id v = none
  glb : ∀ p ∈ Glob.tab, PCells G.M p.1 0 p.2

structure StRel (N : Nat) (G : Gh) (t : Slots) (h : AHeap) (a : Act) (w : World) : Prop where
  size : a.tmps.size = N
  defers : a.defers = []
  slots : ∀ i, Rel G (look t i) (a.tmps.getD i undef)
  heap : HRel G h w

def aev (t : Slots) : Operand → AV
  | .tmp i => look t i
  | .const v => .p (.v v)
  | .global g => match gfind Glob.tab g with | some cs => .iptr cs | none => .p (.v (.pointer (some ⟨g, 0, none⟩)))
  | .func f => .p (.v (.func (.func f) #[] #[]))

theorem StRel.ev {N : Nat} {G : Gh} {t : Slots} {h : AHeap} {a : Act} {w : World} (H : StRel N G t h a w) (x : Operand) : Rel G (aev t x) (a.eval x) := by
  cases x with
  | tmp i => exact H.slots i
  | const v => simp [aev, Act.eval, Rel, PRel]
  | global g =>
    simp only [aev, Act.eval]
    cases hg : gfind Glob.tab g with
    | none => simp [Rel, PRel]
    | some cs => simp only [Rel]; exact ⟨g, 0, rfl, H.heap.glb _ (gfind_mem hg)⟩
  | func f => simp [aev, Act.eval, Rel, PRel]

def del (d : Nat) : Slots → Slots
  | [] => []
  | (j, v) :: r => if d = j then del d r else (j, v) :: del d r

theorem look_del {d i : Nat} (h : i ≠ d) : ∀ (t : Slots), look (del d t) i = look t i
  | [] => rfl
  | (j, v) :: r => by
    simp only [del, look]
    by_cases e : d = j
    · rw [if_pos e, if_neg (fun e2 => h (e2.trans e.symm))]; exact look_del h r
    · rw [if_neg e]; simp only [look]; rw [look_del h r]

def aput (t : Slots) : Option Tmp → AV → Slots
  | some d, v => (d, v) :: del d t
  | none, _ => t

theorem look_aput (t : Slots) (d i : Nat) (v : AV) : look (aput t (some d) v) i = if i = d then v else look t i := by
  simp only [aput, look]
  split
  · rfl
  · rename_i h; exact look_del h t

def fits (N : Nat) : Option Tmp → Bool
  | some d => decide (d < N)
  | none => true

theorem StRel.put {N : Nat} {G G' : Gh} {t : Slots} {h h' : AHeap} {a : Act} {w w' : World} (H : StRel N G t h a w) (hle : G.Le G') (hh : HRel G' h' w') {d : Option Tmp} {v : AV} {u : Value}
    (hd : fits N d = true) (hv : Rel G' v u) : StRel N G' (aput t d v) h' (a.put d u) w' := by
  cases d with
  | none => exact ⟨H.size, H.defers, fun i => Rel.mono hle (H.slots i), hh⟩
  | some d =>
    simp only [fits, decide_eq_true_eq] at hd
    refine ⟨by simp [Act.put, H.size], H.defers, fun i => ?_, hh⟩
    rw [look_aput]
    simp only [Act.put]
    by_cases hi : i = d
    · subst hi
      rw [if_pos rfl]
      have : i < a.tmps.size := by rw [H.size]; exact hd
      simp [Array.getD, this, hv]
    · rw [if_neg hi]
      have := H.slots i
      have e : (a.tmps.setIfInBounds d u).getD i undef = a.tmps.getD i undef := by
        simp only [Array.getD_eq_getD_getElem?]
        rw [Array.getElem?_setIfInBounds_ne (fun e => hi e.symm)]
      rw [e]
      exact Rel.mono hle this

abbrev APost := Exit → Slots → AHeap → Prop

/-- What a ghost must know of the heap at which it was laid. -/
def Anchor (G : Gh) (h : AHeap) : Prop := ∃ w, HRel G h w

/-- The code's weakest condition over the abstract state; h0: the heap when the function began. -/
def AWp (P : Program) (N : Nat) (h0 : AHeap) (c : Code) (Q : APost) (t : Slots) (h : AHeap) : Prop :=
  ∀ G0 G a w, Anchor G0 h0 → G0.Le G → StRel N G t h a w → c.wp P (fun e a' w' => ∃ G' t' h', G0.Le G' ∧ StRel N G' t' h' a' w' ∧ Q e t' h') a w

section control
variable {P : Program} {N : Nat} {h0 : AHeap} {Q : APost} {t : Slots} {h : AHeap}

theorem awp_mono {c : Code} {Q' : APost} (H : AWp P N h0 c Q t h) (hq : ∀ e t h, Q e t h → Q' e t h) : AWp P N h0 c Q' t h :=
  fun G0 G a w ha hl st => wp_mono (H G0 G a w ha hl st) fun e a' w' ⟨G', t', h', l, s, q⟩ => ⟨G', t', h', l, s, hq _ _ _ q⟩

theorem awp_skip (H : Q .normal t h) : AWp P N h0 .skip Q t h := fun _ G a w _ hl st => wp_skip ⟨G, t, h, hl, st, H⟩
theorem awp_label {l : Nat} (H : Q .normal t h) : AWp P N h0 (.label l) Q t h := fun _ G a w _ hl st => wp_label ⟨G, t, h, hl, st, H⟩
theorem awp_exit {id : Nat} (H : Q (.exit id) t h) : AWp P N h0 (.exit id) Q t h := fun _ G a w _ hl st => wp_exit ⟨G, t, h, hl, st, H⟩
theorem awp_ret (H : Q .ret t h) : AWp P N h0 .ret Q t h := fun _ G a w _ hl st => wp_ret ⟨G, t, h, hl, st, H⟩

/-- What stands behind: 'next' on the normal way, Q on every other. -/
def athen (next : Slots → AHeap → Prop) (Q : APost) : APost
  | .normal, t, h => next t h
  | e, t, h => Q e t h

theorem awp_seq {x y : Code} (H : AWp P N h0 x (athen (AWp P N h0 y Q) Q) t h) : AWp P N h0 (.seq x y) Q t h := by
  intro G0 G a w ha hl st
  refine wp_seq (wp_mono (H G0 G a w ha hl st) ?_)
  intro e a' w' ⟨G', t', h', l, s, q⟩
  cases e with
  | normal =>
    simp only [athen] at q
    simp only [Exit.then]
    exact q G0 G' a' w' ha l s
  | exit id => exact ⟨G', t', h', l, s, q⟩
  | goto l' => exact ⟨G', t', h', l, s, q⟩
  | ret => exact ⟨G', t', h', l, s, q⟩
  | panic c => exact ⟨G', t', h', l, s, q⟩
  | outgrown => exact ⟨G', t', h', l, s, q⟩

theorem awp_cond {c : Operand} {x y : Code} (b : Bool) (hc : aev t c = .p (.v (.bool b))) (H1 : b = true → AWp P N h0 x Q t h) (H2 : b = false → AWp P N h0 y Q t h) :
    AWp P N h0 (.cond c x y) Q t h := by
  intro G0 G a w ha hl st
  have hr := st.ev c
  rw [hc] at hr
  simp only [Rel, PRel] at hr
  exact wp_cond_split hr (fun e => H1 e G0 G a w ha hl st) (fun e => H2 e G0 G a w ha hl st)

def ablock (id : Nat) (Q : APost) : APost
  | .exit id', t, h => if id' = id then Q .normal t h else Q (.exit id') t h
  | e, t, h => Q e t h

theorem awp_block {id : Nat} {c : Code} (H : AWp P N h0 c (ablock id Q) t h) : AWp P N h0 (.block id c) Q t h := by
  intro G0 G a w ha hl st
  refine wp_block (wp_mono (H G0 G a w ha hl st) ?_)
  intro e a' w' ⟨G', t', h', l, s, q⟩
  cases e with
  | exit id' =>
    simp only [ablock] at q
    simp only [Exit.inBlock]
    split at q
    · rename_i e; rw [if_pos e]; exact ⟨G', t', h', l, s, q⟩
    · rename_i e; rw [if_neg e]; exact ⟨G', t', h', l, s, q⟩
  | normal => exact ⟨G', t', h', l, s, q⟩
  | goto l' => exact ⟨G', t', h', l, s, q⟩
  | ret => exact ⟨G', t', h', l, s, q⟩
  | panic c => exact ⟨G', t', h', l, s, q⟩
  | outgrown => exact ⟨G', t', h', l, s, q⟩

/-- A state may be looked at as another. -/
def Weak (N : Nat) (h0 : AHeap) (t : Slots) (h : AHeap) (t' : Slots) (h' : AHeap) : Prop :=
  ∀ G0 G a w, Anchor G0 h0 → G0.Le G → StRel N G t h a w → ∃ G', G0.Le G' ∧ StRel N G' t' h' a w

theorem Weak.refl (N : Nat) (h0 : AHeap) (t : Slots) (h : AHeap) : Weak N h0 t h t h := fun _ G _ _ _ hl st => ⟨G, hl, st⟩
theorem Weak.trans {t1 t2 t3 : Slots} {h1 h2 h3 : AHeap} (a : Weak N h0 t1 h1 t2 h2) (b : Weak N h0 t2 h2 t3 h3) : Weak N h0 t1 h1 t3 h3 :=
  fun G0 G x w ha hl st => let ⟨G', l', st'⟩ := a G0 G x w ha hl st; b G0 G' x w ha l' st'

theorem awp_weak {c : Code} {t' : Slots} {h' : AHeap} (hw : Weak N h0 t h t' h') (H : AWp P N h0 c Q t' h') : AWp P N h0 c Q t h :=
  fun G0 G a w ha hl st => let ⟨G', l', st'⟩ := hw G0 G a w ha hl st; H G0 G' a w ha l' st'

/-- A loop: at the head of each round the state is one of a family's, and a measure goes down. -/
theorem awp_loop {c : Code} {α : Type} (T : α → Slots) (H : α → AHeap) (μ : α → Nat) (x0 : α) (start : Weak N h0 t h (T x0) (H x0))
    (round : ∀ x, AWp P N h0 c (athen (fun t' h' => ∃ y, Weak N h0 t' h' (T y) (H y) ∧ μ y < μ x) Q) (T x) (H x)) : AWp P N h0 (.loop c) Q t h := by
  intro G0 G a w ha hl st
  obtain ⟨G, hl, st⟩ := start G0 G a w ha hl st
  refine wp_loop_ghost (fun n a' w' => ∃ x G', μ x = n ∧ G0.Le G' ∧ StRel N G' (T x) (H x) a' w') _ ⟨x0, G, rfl, hl, st⟩ ?_
  intro n a1 w1 ⟨x, G1, hm, hl1, st1⟩
  refine wp_mono (round x G0 G1 a1 w1 ha hl1 st1) ?_
  intro e a' w' ⟨G', t', h', l, s, q⟩
  cases e with
  | normal =>
    simp only [athen] at q
    obtain ⟨y, hw, hlt⟩ := q
    obtain ⟨G2, l2, s2⟩ := hw G0 G' a' w' ha l s
    exact ⟨μ y, by omega, y, G2, rfl, l2, s2⟩
  | exit id => exact ⟨G', t', h', l, s, q⟩
  | goto l' => exact ⟨G', t', h', l, s, q⟩
  | ret => exact ⟨G', t', h', l, s, q⟩
  | panic c => exact ⟨G', t', h', l, s, q⟩
  | outgrown => exact ⟨G', t', h', l, s, q⟩

end control
end Go.AM
