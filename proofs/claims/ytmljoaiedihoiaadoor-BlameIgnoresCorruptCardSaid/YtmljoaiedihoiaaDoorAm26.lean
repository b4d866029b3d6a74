/- A function that leaves memory as it was may be handed rows of the caller's own: it reads them as plain lists. -/
import Derived.Test.YtmljoaiedihoiaaDoorAm25
namespace Go.AM
set_option linter.unusedVariables false
set_option linter.unusedSimpArgs false
open Go Go.RowKit
set_option linter.unusedSectionVars false
variable [Glob]

/-- How a value reads as a plain one. -/
def viewP (h : AHeap) : Nat → AV → Option PV
  | _, .p x => some x
  | k + 1, .own id ver 0 len => match h id with
    | some (.row ver' _ sz es) => if ver' = ver ∧ len = es.length then (es.mapM fun c => List.mapM (viewP h k) c).map (PV.sl sz) else none
    | none => none
  | _, _ => none
def viewA (h : AHeap) (k : Nat) : AV → Option AV
  | .agg cs => if cs.all AV.one = true then (cs.mapM (viewP h k)).map fun l => .agg (l.map AV.p) else none
  | x => (viewP h k x).map AV.p

theorem mapM_flat {α β : Type} {f : α → Option β} : ∀ {es : List (List α)} {es' : List (List β)}, (es.mapM fun c => c.mapM f) = some es' → es.flatten.mapM f = some es'.flatten ∧ es'.length = es.length ∧ ∀ sz, (∀ x ∈ es, x.length = sz) → ∀ x ∈ es', x.length = sz
  | [], es', h => by simp at h; subst h; simp
  | e :: es, es', h => by
    simp only [List.mapM_cons, Option.bind_eq_bind, Option.bind_eq_some_iff, Option.pure_def, Option.some.injEq] at h
    obtain ⟨a, ha, r, hr, rfl⟩ := h
    obtain ⟨h1, h2, h3⟩ := mapM_flat hr
    refine ⟨?_, by simp [h2], fun sz hs x hx => ?_⟩
    · simp only [List.flatten_cons, List.mapM_append, ha, h1]; rfl
    · simp only [List.mem_cons] at hx
      rcases hx with rfl | hx
      · have : x.length = e.length := by
          clear h1 h2 h3 hr hs
          induction e generalizing x with
          | nil => simp at ha; subst ha; rfl
          | cons y e ih =>
            simp only [List.mapM_cons, Option.bind_eq_bind, Option.bind_eq_some_iff, Option.pure_def, Option.some.injEq] at ha
            obtain ⟨b, hb, q, hq, rfl⟩ := ha
            simp [ih _ hq]
        rw [this]; exact hs e (by simp)
      · exact h3 sz (fun y hy => hs y (by simp [hy])) x hx

theorem PEls.of_flat {M : Nat → Nat → Option Value} {b sz : Nat} : ∀ {es : List (List PV)} {o : Nat}, (∀ e ∈ es, e.length = sz) → PCells M b o es.flatten → PEls M b o sz es
  | [], _, _, _ => by simp [PEls]
  | e :: es, o, hs, h => by
    have split : ∀ {a r : List PV} {o : Nat}, PCells M b o (a ++ r) → PCells M b o a ∧ PCells M b (o + a.length) r := by
      intro a
      induction a with
      | nil => intro r o h; exact ⟨by simp [PCells], by simpa using h⟩
      | cons x a ih =>
        intro r o h
        simp only [List.cons_append, PCells] at h ⊢
        obtain ⟨h1, h2⟩ := h
        obtain ⟨h3, h4⟩ := ih h2
        exact ⟨⟨h1, h3⟩, by rw [List.length_cons, show o + (a.length + 1) = o + 1 + a.length by omega]; exact h4⟩
    simp only [List.flatten_cons] at h
    obtain ⟨h1, h2⟩ := split h
    have he := hs e (by simp)
    simp only [PEls]
    rw [he] at h2
    exact ⟨he, h1, PEls.of_flat (fun x hx => hs x (by simp [hx])) h2⟩

theorem view_list {G : Gh} {w : World} {f : AV → Option PV} : ∀ {xs : List AV} {ps : List PV} {vs : List Value}, (∀ x ∈ xs, ∀ p v, f x = some p → Rel G x v → PRel (mem w) p v) → xs.mapM f = some ps → RelL G xs vs → (∀ v ∈ vs, v.oneCell' = true) → PRelL (mem w) ps vs
  | [], ps, [], _, h, _, _ => by simp at h; subst h; simp [PRelL]
  | x :: xs, ps, v :: vs, hf, h, r, ho => by
    simp only [List.mapM_cons, Option.bind_eq_bind, Option.bind_eq_some_iff, Option.pure_def, Option.some.injEq] at h
    obtain ⟨a, ha, q, hq, rfl⟩ := h
    simp only [RelL] at r
    simp only [PRelL]
    exact ⟨hf x (by simp) a v ha r.1, ho v (by simp), view_list (fun y hy => hf y (by simp [hy])) hq r.2 fun u hu => ho u (by simp [hu])⟩
  | [], _, _ :: _, _, _, r, _ => by simp [RelL] at r
  | _ :: _, _, [], _, _, r, _ => by simp [RelL] at r

theorem view_rel {G : Gh} {h : AHeap} {w : World} (H : HRel G h w) : ∀ (k : Nat) (a : AV) (x : PV) (y : Value), viewP h k a = some x → Rel G a y → PRel (mem w) x y := by
  intro k
  induction k with
  | zero =>
    intro a x y hv r
    cases a with
    | p z => simp only [viewP] at hv; cases hv; simp only [Rel] at r; exact PRel.mono (fun b o v hm => mem_of (H.imm b o v hm).1 (H.imm b o v hm).2) r
    | _ => simp [viewP] at hv
  | succ k ih =>
    intro a x y hv r
    cases a with
    | p z => simp only [viewP] at hv; cases hv; simp only [Rel] at r; exact PRel.mono (fun b o v hm => mem_of (H.imm b o v hm).1 (H.imm b o v hm).2) r
    | own id ver off len =>
      cases off with
      | succ off => simp [viewP] at hv
      | zero =>
        simp only [viewP] at hv
        split at hv
        · rename_i ver' e sz es hk
          split at hv
          · rename_i hc
            obtain ⟨rfl, rfl⟩ := hc
            simp only [Option.map_eq_some_iff] at hv
            obtain ⟨es', hes, rfl⟩ := hv
            obtain ⟨m1, m2, m3⟩ := mapM_flat hes
            obtain ⟨v, xs, l1, o1, r1, s1, c1, _⟩ := H.blk id _ hk
            simp only [Rel] at r
            obtain ⟨a, n, c, sz', a', l2, h1, h2, rfl, h3, h4⟩ := r
            rw [l1] at l2
            cases l2
            have ha' := h4 (.inr trivial)
            have o2 := o1
            rcases o1 with ⟨hx, ⟨e1, e2⟩ | ⟨g, cap, cur, e1, hb, hg, hn, hcap, hsz, htk⟩⟩
            · cases e1
              have : es' = [] := List.eq_nil_of_length_eq_zero (by omega)
              subst this
              simp only [PRel]
              exact ⟨a', es.length, 0, rfl, by simp [e2], by omega, fun _ => rfl, .inl trivial⟩
            · cases e1
              simp only [Option.map_some] at ha'
              subst ha'
              simp only [PRel, Nat.sub_zero]
              refine ⟨_, _, _, rfl, m2.symm, h2, by simp, .inr ⟨g, 0 * sz, rfl, PEls.of_flat (m3 sz s1) ?_⟩⟩
              have hl := view_list (w := w) (fun z hz p v hp hr => ih z p v hp hr) m1 r1 c1
              refine PRelL.cells hl fun i hi => ?_
              rw [Nat.zero_mul, Nat.zero_add]
              have hlt : i < es.length * sz := by rw [hx] at hi; exact hi
              exact o2.cellAt i hlt
          · cases hv
        · cases hv
    | _ => simp [viewP] at hv

theorem RelL.ones {G : Gh} : ∀ {xs : List AV} {vs : List Value}, RelL G xs vs → (∀ c ∈ xs, c.one = true) → ∀ v ∈ vs, v.oneCell' = true
  | [], [], _, _ => by simp
  | x :: xs, v :: vs, h, ho => by
    simp only [RelL] at h
    intro u hu
    simp only [List.mem_cons] at hu
    rcases hu with rfl | hu
    · exact AV.one_rel (ho x (by simp)) h.1
    · exact RelL.ones h.2 (fun c hc => ho c (by simp [hc])) u hu
  | [], _ :: _, h, _ => by simp [RelL] at h
  | _ :: _, [], h, _ => by simp [RelL] at h

theorem viewA_rel {G : Gh} {h : AHeap} {w : World} (H : HRel G h w) {k : Nat} {a x : AV} {y : Value} (hv : viewA h k a = some x) (r : Rel G a y) : Rel (gh0 w) x y := by
  have key : ∀ z, (viewP h k a).map AV.p = some z → Rel (gh0 w) z y := by
    intro z hz
    simp only [Option.map_eq_some_iff] at hz
    obtain ⟨p, hp, rfl⟩ := hz
    simp only [Rel]
    exact view_rel H k a p y hp r
  cases a with
  | agg cs =>
    simp only [viewA] at hv
    split at hv
    · rename_i ho
      simp only [Option.map_eq_some_iff] at hv
      obtain ⟨l, hl, rfl⟩ := hv
      simp only [Rel] at r ⊢
      obtain ⟨vs, rfl, r⟩ := r
      refine ⟨vs, rfl, PRelL.rel (G := gh0 w) (view_list (fun z _ p v hp hr => view_rel H k z p v hp hr) hl r (RelL.ones r (by simpa using ho)))⟩
    · cases hv
  | _ => exact key x hv

theorem viewL_rel {G : Gh} {h : AHeap} {w : World} (H : HRel G h w) {k : Nat} : ∀ {as xs : List AV} {ys : List Value}, as.mapM (viewA h k) = some xs → RelL G as ys → RelL (gh0 w) xs ys
  | [], xs, [], hv, _ => by simp at hv; subst hv; simp [RelL]
  | a :: as, xs, y :: ys, hv, r => by
    simp only [List.mapM_cons, Option.bind_eq_bind, Option.bind_eq_some_iff, Option.pure_def, Option.some.injEq] at hv
    obtain ⟨b, hb, q, hq, rfl⟩ := hv
    simp only [RelL] at r ⊢
    exact ⟨viewA_rel H hb r.1, viewL_rel H hq r.2⟩
  | [], _, _ :: _, _, r => by simp [RelL] at r
  | _ :: _, _, [], _, r => by simp [RelL] at r

theorem ownsRow_below {w w' : World} {base sz n : Nat} {e : TypeId} {v : Value} {xs : List Value} (h : w.ownsRow base e sz v n xs) (hb : Below w.heap.size w w') : w'.ownsRow base e sz v n xs := by
  obtain ⟨h1, h2⟩ := h
  refine ⟨h1, ?_⟩
  rcases h2 with h2 | ⟨g, cap, cur, e1, b1, hg, r⟩
  · exact .inl h2
  · refine .inr ⟨g, cap, cur, e1, b1, ?_, r⟩
    have hlt : g < w.heap.size := (Array.getElem?_eq_some_iff.1 hg).1
    rw [hb.block g hlt]; exact hg

theorem HRel.grew {G : Gh} {h : AHeap} {w w' : World} (H : HRel G h w) (hb : Below w.heap.size w w') : HRel G h w' where
  below := H.below.trans (hb.mono H.below.size)
  imm := fun b o v hm => by
    obtain ⟨h1, h2⟩ := H.imm b o v hm
    have hlt : b < w.heap.size := by
      cases hg : w.heap[b]? with
      | none => simp [World.cell?, hg] at h1
      | some x => exact (Array.getElem?_eq_some_iff.1 hg).1
    exact ⟨by rw [hb.cell (p := ⟨b, o, none⟩) hlt]; exact h1, h2⟩
  blk := fun id k hk => by
    have := H.blk id k hk
    cases k with
    | row ver e sz es =>
      obtain ⟨v, xs, a1, a2, a3⟩ := this
      exact ⟨v, xs, a1, ownsRow_below a2 hb, a3⟩
  sep := H.sep
  dom := H.dom
  top := H.top
  glb := H.glb

/-- A function whose result is a scalar, handed what reads as its arguments. -/
theorem does_view {P : Program} {f : FuncId} {as xs : List AV} {rd : Locs} {x : Value} (k : Nat) (h : Pure P f xs (.p (.v x))) (hv : ∀ F : AHeap, (∀ p ∈ rd, F p.1 = some p.2) → as.mapM (viewA F k) = some xs) : Does P f as rd [] (.p (.v x)) := by
  intro F n hF hrd G w vs H hr
  refine (h (fun _ => none) 0 (fun _ _ => rfl) (gh0 w) w vs (hrel0 w fun p hp => PCells.mono (fun b o v h => mem_of (H.imm b o v h).1 (H.imm b o v h).2) (H.glb p hp)) (viewL_rel H (hv F hrd) hr)).mono ?_
  rintro e w' ⟨v, G', r, h', rfl, hl, hh, hv', rfl, rfl⟩
  have hb := hh.below
  rw [hl.w] at hb
  simp only [Rel, PRel] at hv'
  subst hv'
  exact ⟨_, G, _, F, rfl, .refl G, H.grew hb, by simp [Rel, PRel], rfl, rfl⟩

end Go.AM
