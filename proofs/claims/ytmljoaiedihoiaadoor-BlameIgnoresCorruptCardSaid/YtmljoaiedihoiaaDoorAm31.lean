/- Operations by hand; calls that read and write; functions that do. -/
import Derived.Test.YtmljoaiedihoiaaDoorAm30
namespace Go.AM
set_option linter.unusedVariables false
set_option linter.unusedSimpArgs false
open Go Go.RowKit
set_option linter.unusedSectionVars false
variable [Glob]

/-- What an operation does to the machine, whatever the heap it leaves. -/
def OpRunH (P : Program) (o : Oper) (a : Act) (w : World) (G : Gh) (h' : AHeap) (v : AV) : Prop :=
  ∃ u G' w', ((execOp a.eval o).run P w = .ok (.value u) w' ∨ ((execOp a.eval o).run P w = .ok .skip w' ∧ u = undef)) ∧ G.Le G' ∧ HRel G' h' w' ∧ Rel G' v u

section
variable {P : Program} {N : Nat} {F : AHeap} {Q : SPost} {t : Slots} {L L' : Locs} {n n' : Nat} {ops rest : List Oper} {o : Oper}

theorem ss_oprun {v : AV} (hw : Is (awanted ops t o) (some true)) (hf : fits N o.dst = true) (hr : ∀ G a w, StRel N G t (hp F L) a w → OpRunH P o a w G (hp F L') v) (hfr : Fresh F L n → Fresh F L' n')
    (H : SS P N F ops Q rest (aput t o.dst v) L' n') : SS P N F ops Q (o :: rest) t L n := by
  intro hfr0 G0 G a w ha hl st
  unfold wpList
  rw [if_pos (awanted_run st hw)]
  refine .inl ?_
  obtain ⟨u, G', w', hrun, h1, h2, h3⟩ := hr G a w st
  have K : ∀ u' G' w', G.Le G' → HRel G' (hp F L') w' → Rel G' v u' → wpList P ops.toArray (fun e a' w' => ∃ G' t' h', G0.Le G' ∧ StRel N G' t' h' a' w' ∧ conc F Q e t' h') rest (a.put o.dst u') w' :=
    fun u' G' w' l hh hv => H (hfr hfr0) G0 G' _ w' ha (hl.trans l) (st.put l hh hf hv)
  unfold Oper.wp
  rcases hrun with hrun | ⟨hrun, rfl⟩
  · rw [hrun]; exact K u G' w' h1 h2 h3
  · rw [hrun]; exact K undef G' w' h1 h2 h3

/-- A call of a function that reads blocks and leaves others in their place. -/
theorem ss_does {c : Call} {f : FuncId} {args : List AV} {rd wr : Locs} {v : AV} (hc : o.op = .call c) (hw : Is (awanted ops t o) (some true)) (hf : fits N o.dst = true) (hx : Is (acallee t c) (some (f, args))) (hp' : callable P f = true)
    (HC : Does P f args rd wr v) (hrd : ∀ p ∈ rd, hp F L p.1 = some p.2) (hwr : ∀ p ∈ wr, p.1 ∈ rd.map (·.1)) (H : SS P N F ops Q rest (aput t o.dst v) (wr ++ L) n) : SS P N F ops Q (o :: rest) t L n := by
  intro hfr
  refine aseq_call hc hw hf hx hp' (HC (hp F L) n (fun k hk => hfr k hk) hrd) fun r h' ⟨e, hr⟩ => ?_
  rw [e, hr, hp_append]
  refine H fun k hk => ?_
  rw [← hp_append, hp_ne]
  · exact hfr k hk
  · intro p hp e
    obtain ⟨q, hq, e2⟩ := List.mem_map.1 (hwr p hp)
    have := hrd q hq
    rw [e2, e, hfr k hk] at this
    cases this

/-- A function that does: its walk. -/
theorem does_of {f : FuncId} {fn : Func} {c : Code} {args : List AV} {rd wr : Locs} {v : AV} {N : Nat} (hf : P.funcs[f]? = some fn) (hb : fn.body = some c) (hN : fn.ntmps = N) (hl : args.length ≤ N)
    (H : ∀ F n, Fresh F [] n → (∀ k, F (n + k) = none) → F n = none → (∀ p ∈ rd, F p.1 = some p.2) → SW P N F c (send P F fn.results.toList (fun r h' => h' = hp F wr ∧ r = v)) (argSlots 0 args) [] n) : Does P f args rd wr v :=
  fun F n hF hrd => acalls_sw hf hb hN hl hF (H F n hF (fun k => hF (n + k) (by omega)) (hF n (Nat.le_refl _)) hrd)

/-- The end of a function that does: what it leaves. -/
theorem end_does {rs : List ResultVar} {R : AV → AHeap → Prop} {r : AV} {wr : Locs} (hr : Is (ares P t (hp F L) rs) (some r)) (hc : conv (fun id => hp F wr id ≠ none) noA r r) (hb : keptB F L wr wr) (hs : shed F wr L) (H : R r (hp F wr)) : send P F rs R .ret t L n :=
  end_ret hr (fun _ => weakL_cut (xs := [r]) (ys := [r]) (by simp only [convL]; exact ⟨hc, trivial⟩) hb hs) H
end

/-- One row more at the end of a row of the call's own. -/
theorem row_grow {G : Gh} {h : AHeap} {w w' : World} {id ver sz : Nat} {e : TypeId} {es news : List (List AV)} {v0 v' : Value} {xs newv : List Value} (H : HRel G h w) (hk : h id = some (.row ver e sz es)) (hl : G.loc id ver = some (v0, sz))
    (o1 : w.ownsRow G.w0.heap.size e sz v0 es.length xs) (r1 : RelL G es.flatten xs) (s1 : ∀ y ∈ es, y.length = sz) (on1 : ∀ y ∈ xs, y.oneCell' = true) (m1 : ∀ g, v0.ownBlock = some g → ∀ o, G.M g o = none) (hnl : ∀ y ∈ news, y.length = sz)
    (e2 : w'.ownsRow G.w0.heap.size e sz v' (es.length + news.length) (xs ++ newv)) (e3 : w.grownBy w' v0.ownBlock) (e4 : ∀ g, v'.ownBlock = some g → v0.ownBlock = some g ∨ w.heap.size ≤ g) (e5 : RelL G news.flatten newv) (e6 : ∀ y ∈ newv, y.oneCell' = true) :
    ∃ G', G.Le G' ∧ HRel G' (hp h [(id, .row (ver + 1) e sz (es ++ news))]) w' ∧ Rel G' (.own id (ver + 1) 0 (es.length + news.length)) v' := by
  let G' : Gh := { M := G.M, loc := fun i v => if i = id ∧ v = ver + 1 then some (v', sz) else G.loc i v, w0 := G.w0 }
  have hnone : G.loc id (ver + 1) = none := H.top id _ (ver + 1) hk (by simp [Blk.ver])
  have hle : G.Le G' := ⟨fun _ _ _ h => h, fun i v y h => by
    show (if i = id ∧ v = ver + 1 then _ else _) = _
    rw [if_neg (fun ⟨e1, e2⟩ => by rw [e1, e2, hnone] at h; cases h)]; exact h, rfl⟩
  have hloc : G'.loc id (ver + 1) = some (v', sz) := by
    show (if id = id ∧ ver + 1 = ver + 1 then _ else _) = _
    simp
  have hv' : ∃ a c, v' = .slice a (es.length + news.length) c ∧ es.length + news.length ≤ c ∧ (a = none → c = 0) ∧ (∀ b, a = some b → b.off = 0 ∧ b.spot = none) := by
    rcases e2.2 with ⟨h1, h2⟩ | ⟨g, cap, cur, h1, _, _, h2, _⟩
    · exact ⟨none, 0, by rw [h1, h2], by omega, fun _ => rfl, by simp⟩
    · exact ⟨_, cap, h1, h2, by simp, by intro b hb; cases hb; exact ⟨rfl, rfl⟩⟩
  have hM : ∀ g, v'.ownBlock = some g → ∀ o, G.M g o = none := fun g hg o => by
    rcases e4 g hg with h1 | h1
    · exact m1 g h1 o
    · cases hM : G.M g o with
      | none => rfl
      | some y => have := World.block_lt_of_cell? w _ (H.imm _ _ _ hM).1; simp at this; omega
  refine ⟨G', hle, ?_, ?_⟩
  · refine HRel.upd H hle rfl (fun i v y hy => ?_) e3 ?_ ?_ ?_ (fun v hv => ?_)
    · by_cases e : i = id ∧ v = ver + 1
      · exact .inr e.1
      · have : (if i = id ∧ v = ver + 1 then _ else G.loc i v) = some y := hy
        rw [if_neg e] at this; exact .inl this
    · intro g hg
      refine ⟨(o1.lt g hg).1, fun o => m1 g hg o, fun i2 l hne hl2 h2 => H.sep id i2 _ l g (fun e => hne e.symm) hk hl2 (by simp [cbOf, hl, hg]) h2⟩
    · refine ⟨v', xs ++ newv, hloc, ?_, ?_, ?_, ?_, fun g hg o => hM g hg o⟩
      · rw [List.length_append]; exact e2
      · rw [List.flatten_append]; exact RelL.append (RelL.mono hle r1) (RelL.mono hle e5)
      · intro y hy
        rcases List.mem_append.1 hy with h | h
        · exact s1 y h
        · exact hnl y h
      · intro y hy
        rcases List.mem_append.1 hy with h | h
        · exact on1 y h
        · exact e6 y h
    · intro g hg
      simp only [cbOf, hloc, Option.bind_some] at hg
      exact e4 g hg
    · simp only [Blk.ver] at hv
      show (if id = id ∧ v = ver + 1 then _ else G.loc id v) = none
      rw [if_neg (by omega)]
      exact H.top id _ v hk (by simp only [Blk.ver]; omega)
  · obtain ⟨a, c, rfl, h1, h2, h3⟩ := hv'
    simp only [Rel]
    refine ⟨a, _, c, sz, a, hloc, by omega, h1, by simp, by simpa using h2, fun _ => ?_⟩
    cases a with
    | none => rfl
    | some b =>
      obtain ⟨bb, bo, bs⟩ := b
      have := h3 _ rfl
      simp at this
      obtain ⟨rfl, rfl⟩ := this
      simp

end Go.AM
