/- append, and the addresses. -/
import Derived.Test.YtmljoaiedihoiaaDoorAm8
namespace Go.AM
set_option linter.unusedVariables false
set_option linter.unusedSimpArgs false
open Go Go.RowKit
set_option linter.unusedSectionVars false
variable [Glob]

/-- A row that is appended to lies where it lay, or in a new block. -/
theorem append_own_more {P : Program} {w : World} (base : Nat) (t ty e : TypeId) (i : TypeInfo) (z : Value) (size bytes : Nat) (ht : P.underlying t = some (.slice e)) (hi : P.info? e = some i) (hz : i.zero = some z)
    (hsize : i.size = size) (hby : i.bytes = bytes) (hzs : z.cells.size = size) (hsz : 0 < size)
    (v : Value) (n : Nat) (xs : List Value) (hown : w.ownsRow base e size v n xs)
    (a : Addr) (m c : Nat) (news : List Value) (hl : news.length = m * size) (hnews : ∀ j u, news[j]? = some u → w.cell? (a.add j) = some u) (h1 : ∀ u ∈ news, u.oneCell' = true)
    (h63 : n + m ≤ maxLen) (hbytes : (n + m) * bytes ≤ 140737488355328) (hbase : base ≤ w.heap.size) :
    ∃ v' w', (Builtin.append_ #[t, t] ty #[v, .slice (some a) m c]).run P w = .ok v' w' ∧ w'.ownsRow base e size v' (n + m) (xs ++ news) ∧ w.grownBy w' v.ownBlock ∧
      ∀ g, v'.ownBlock = some g → v.ownBlock = some g ∨ w.heap.size ≤ g := by
  obtain ⟨v', w', hr, h2, h3, h4⟩ := run_append_own (P := P) w base t ty e i z size bytes ht hi hz hsize hby hzs hsz v n xs hown a m c news hl hnews h1 h63 hbytes hbase
  refine ⟨v', w', hr, h2, h3, ?_⟩
  have hsmall : n + m ≤ 9223372036854775807 := by simp only [maxLen] at h63; omega
  rcases hown.2 with ⟨rfl, rfl⟩ | ⟨g, cap, cur, rfl, hbg, hg, hnc, hcm, hcs, htake⟩
  · by_cases hm : m = 0
    · intro g hg
      have := h4.2 ⟨rfl, hm⟩
      rw [this] at hg
      simp [Value.ownBlock] at hg
    · have hr2 := run_append_nil (P := P) w t ty e i z ht hi hz a m c news (by rw [hsize]; exact hl) hnews (by omega) (by omega) (by rw [hby]; have hb := hbytes; simp only [Nat.zero_add] at hb; omega)
      rw [hr2] at hr
      cases hr
      intro g hg
      simp [Value.ownBlock] at hg
      exact .inr (by omega)
  · by_cases hroom : n + m ≤ cap
    · have hfit : n * i.size + news.length ≤ cur.size := by rw [hsize, hl, hcs, ← Nat.add_mul]; exact Nat.mul_le_mul_right _ hroom
      have hr2 := run_append_room (P := P) w t ty e i ht hi g n cap cur hg a m c news (by rw [hsize]; exact hl) hnews h1 hroom hfit
      rw [hr2] at hr
      cases hr
      intro g' hg'
      simp [Value.ownBlock] at hg' ⊢
      exact .inl hg'
    · have holds : ∀ j u, xs[j]? = some u → w.cell? ((⟨g, 0, none⟩ : Addr).add j) = some u := hown.cells (g := g) rfl
      have hr2 := run_append_grow (P := P) w t ty e i z ht hi hz ⟨g, 0, none⟩ n cap xs (by rw [hsize]; exact hown.1) holds a m c news (by rw [hsize]; exact hl) hnews (by omega) (by omega) (by rw [hby]; exact growslice_fits (by omega) hbytes)
      rw [hr2] at hr
      cases hr
      intro g' hg'
      simp [Value.ownBlock] at hg'
      exact .inr (by omega)

/-- Short enough for any memory. -/
def Small (n : Nat) : Prop := n < 4294967296
instance (n : Nat) : Decidable (Small n) := inferInstanceAs (Decidable (n < 4294967296))
theorem Small.le {m n : Nat} (h : Small n) (hm : m ≤ n) : Small m := Nat.lt_of_le_of_lt hm h
theorem Small.lt {n : Nat} (h : Small n) : n < 4294967296 := h
theorem Small.mk {n : Nat} (h : n < 4294967296) : Small n := h

/-- append: the row that grows, and what it becomes; a nil slice becomes a new row (nm). -/
def aapp (P : Program) (h : AHeap) (nm : Nat) (t : TypeId) (s x : AV) : Option (List (Nat × Blk) × List (Nat × Blk) × AV) :=
  match tElem P t with
  | some (e, sz, by_, zs) =>
    if zs.length = sz ∧ 0 < sz ∧ by_ ≤ 1000 then
      match asrc h sz x with
      | some news =>
        match s with
        | .p (.v (.slice none 0 0)) => if Small news.length then some ([], [(nm, .row 0 e sz news)], .own nm 0 0 news.length) else none
        | .own id ver 0 len =>
          match h id with
          | some (.row ver' e' sz' es) =>
            if ver' = ver ∧ e' = e ∧ sz' = sz ∧ len = es.length ∧ Small (es.length + news.length) then
              some ([(id, .row ver e sz es)], [(id, .row (ver + 1) e sz (es ++ news))], .own id (ver + 1) 0 (es.length + news.length)) else none
          | none => none
        | _ => none
      | none => none
    else none
  | none => none

theorem small_bytes {n b : Nat} (hb : b ≤ 1000) (hn : n < 4294967296) : n * b ≤ 140737488355328 := by
  have : n * b ≤ 4294967296 * 1000 := Nat.mul_le_mul (by omega) hb
  omega

theorem aapp_rel {P : Program} {G : Gh} {h : AHeap} {w : World} (H : HRel G h w) {nm : Nat} {t ty : TypeId} {s x v : AV} {rd wr : List (Nat × Blk)} (hn0 : ∀ p ∈ wr, p.1 = nm → h nm = none) (ha : aapp P h nm t s x = some (rd, wr, v))
    {ys yx : Value} (rs : Rel G s ys) (rx : Rel G x yx) :
    (∀ p ∈ rd, h p.1 = some p.2) ∧ ∃ u G' w', (Builtin.append_ #[t, t] ty #[ys, yx]).run P w = .ok u w' ∧ G.Le G' ∧ HRel G' (hp h wr) w' ∧ Rel G' v u := by
  unfold aapp at ha
  cases hT : tElem P t with
  | none => rw [hT] at ha; cases ha
  | some q =>
    obtain ⟨e, sz, by_, zs⟩ := q
    rw [hT] at ha
    simp only at ha
    split at ha
    case isFalse => cases ha
    rename_i hc
    obtain ⟨hzl, hsz, hby⟩ := hc
    cases hx : asrc h sz x with
    | none => rw [hx] at ha; cases ha
    | some news =>
      rw [hx] at ha
      simp only at ha
      obtain ⟨i, z, ht', hi, hz', hs, hb, hzc⟩ := tElem_parts hT
      have hzs : z.cells.size = sz := by rw [← Array.length_toList, hzc, hzl]
      obtain ⟨hnl, hsrc⟩ := asrc_rel H hx rx
      -- the general step: a row that is owned, by whatever ghost
      have step : ∀ (id ver : Nat) (es : List (List AV)) (v0 : Value) (xs : List Value) (Gs : Gh) (hh : AHeap), Gs.M = G.M → G.Le Gs → HRel Gs hh w → hh id = some (.row ver e sz es) → Gs.loc id ver = some (v0, sz) → w.ownsRow G.w0.heap.size e sz v0 es.length xs →
          RelL Gs es.flatten xs → (∀ y ∈ es, y.length = sz) → (∀ y ∈ xs, y.oneCell' = true) → (∀ g, v0.ownBlock = some g → ∀ o, G.M g o = none) → es.length + news.length < 4294967296 →
          ∃ u G' w', (Builtin.append_ #[t, t] ty #[v0, yx]).run P w = .ok u w' ∧ Gs.Le G' ∧ HRel G' (hp hh [(id, .row (ver + 1) e sz (es ++ news))]) w' ∧ Rel G' (.own id (ver + 1) 0 (es.length + news.length)) u := by
        intro id ver es v0 xs Gs hh hGM hle0 HH hk hl o1 r1 s1 on1 m1 hlt
        have hres : ∃ v' w' newv, (Builtin.append_ #[t, t] ty #[v0, yx]).run P w = .ok v' w' ∧ w'.ownsRow G.w0.heap.size e sz v' (es.length + news.length) (xs ++ newv) ∧ w.grownBy w' v0.ownBlock ∧
            (∀ g, v'.ownBlock = some g → v0.ownBlock = some g ∨ w.heap.size ≤ g) ∧ RelL G news.flatten newv ∧ (∀ y ∈ newv, y.oneCell' = true) := by
          rcases hsrc with ⟨rfl, rfl⟩ | ⟨a, c, newv, rfl, h1, h2, h3, h4⟩
          · have := run_append_owned_none (P := P) w G.w0.heap.size t ty e i sz ht' hi v0 es.length xs o1
            exact ⟨v0, w, [], this, by simpa using o1, World.grownBy.refl w _, fun g hg => .inl hg, by simp [RelL], by simp⟩
          · obtain ⟨v', w', e1, e2, e3, e4⟩ := append_own_more (P := P) (w := w) G.w0.heap.size t ty e i z sz by_ ht' hi hz' hs hb hzs hsz v0 es.length xs o1 a news.length c newv h1 h2 h4 (by simp [maxLen]; omega) (small_bytes hby hlt) H.below.size
            exact ⟨v', w', newv, e1, e2, e3, e4, h3, h4⟩
        obtain ⟨v', w', newv, e1, e2, e3, e4, e5, e6⟩ := hres
        let G' : Gh := { M := Gs.M, loc := fun i v => if i = id ∧ v = ver + 1 then some (v', sz) else Gs.loc i v, w0 := Gs.w0 }
        have hnone : Gs.loc id (ver + 1) = none := HH.top id _ (ver + 1) hk (by simp [Blk.ver])
        have hle : Gs.Le G' := ⟨fun _ _ _ h => h, fun i v y h => by
          show (if i = id ∧ v = ver + 1 then _ else _) = _
          rw [if_neg (fun ⟨e1, e2⟩ => by rw [e1, e2, hnone] at h; cases h)]; exact h, rfl⟩
        have hloc : G'.loc id (ver + 1) = some (v', sz) := by
          show (if id = id ∧ ver + 1 = ver + 1 then _ else _) = _
          simp
        have hv' : ∃ a c, v' = .slice a (es.length + news.length) c ∧ es.length + news.length ≤ c ∧ (a = none → c = 0) ∧ (∀ b, a = some b → b.off = 0 ∧ b.spot = none) := by
          rcases e2.2 with ⟨h1, h2⟩ | ⟨g, cap, cur, h1, _, _, h2, _⟩
          · exact ⟨none, 0, by rw [h1, h2], by omega, fun _ => rfl, by simp⟩
          · exact ⟨_, cap, h1, h2, by simp, by intro b hb; cases hb; exact ⟨rfl, rfl⟩⟩
        have hM : ∀ g, v'.ownBlock = some g → ∀ o, G.M g o = none := fun g hg o => by
          rcases e4 g hg with h1 | h1
          · exact m1 g h1 o
          · cases hM : G.M g o with
            | none => rfl
            | some y => have := World.block_lt_of_cell? w _ (H.imm _ _ _ hM).1; simp at this; omega
        refine ⟨v', G', w', e1, hle, ?_, ?_⟩
        · refine HRel.upd HH hle rfl (fun i v y hy => ?_) e3 ?_ ?_ ?_ (fun v hv => ?_)
          · by_cases e : i = id ∧ v = ver + 1
            · exact .inr e.1
            · have : (if i = id ∧ v = ver + 1 then _ else Gs.loc i v) = some y := hy
              rw [if_neg e] at this; exact .inl this
          · intro g hg
            refine ⟨?_, fun o => by rw [hGM]; exact m1 g hg o, fun i2 l hne hl2 h2 => HH.sep id i2 _ l g (fun e => hne e.symm) hk hl2 (by simp [cbOf, hl, hg]) h2⟩
            rw [hle0.w]
            exact (o1.lt g hg).1
          · refine ⟨v', xs ++ newv, hloc, ?_, ?_, ?_, ?_, fun g hg o => by show Gs.M g o = none; rw [hGM]; exact hM g hg o⟩
            · show w'.ownsRow Gs.w0.heap.size _ _ _ _ _
              rw [hle0.w, List.length_append]; exact e2
            · rw [List.flatten_append]; exact RelL.append (RelL.mono hle r1) (RelL.mono (hle0.trans hle) e5)
            · intro y hy
              rcases List.mem_append.1 hy with h | h
              · exact s1 y h
              · exact hnl y h
            · intro y hy
              rcases List.mem_append.1 hy with h | h
              · exact on1 y h
              · exact e6 y h
          · intro g hg
            simp only [cbOf, hloc, Option.bind_some] at hg
            exact e4 g hg
          · simp only [Blk.ver] at hv
            show (if id = id ∧ v = ver + 1 then _ else Gs.loc id v) = none
            rw [if_neg (by omega)]
            exact HH.top id _ v hk (by simp only [Blk.ver]; omega)
        · obtain ⟨a, c, rfl, h1, h2, h3⟩ := hv'
          simp only [Rel]
          refine ⟨a, _, c, sz, a, hloc, by omega, h1, by simp, by simpa using h2, fun _ => ?_⟩
          cases a with
          | none => rfl
          | some b =>
            obtain ⟨bb, bo, bs⟩ := b
            have := h3 _ rfl
            simp at this
            obtain ⟨rfl, rfl⟩ := this
            simp
      cases s with
      | p y =>
        cases y with
        | v y =>
          cases y with
          | slice a0 n0 c0 =>
            cases a0 with
            | none =>
              cases n0 with
              | zero =>
                cases c0 with
                | zero =>
                  simp only at ha
                  split at ha
                  · rename_i hlt
                    have hlt := hlt.lt
                    cases ha
                    have hn : h nm = none := hn0 _ (List.mem_singleton.2 rfl) rfl
                    refine ⟨by simp, ?_⟩
                    simp only [Rel, PRel] at rs
                    subst rs
                    -- an empty row at a version below the new one: the ghost's own
                    let Gs : Gh := G
                    have hres : ∃ v' w' newv, (Builtin.append_ #[t, t] ty #[.slice none 0 0, yx]).run P w = .ok v' w' ∧ w'.ownsRow G.w0.heap.size e sz v' news.length newv ∧ w.grownBy w' none ∧
                        (∀ g, v'.ownBlock = some g → w.heap.size ≤ g) ∧ RelL G news.flatten newv ∧ (∀ y ∈ newv, y.oneCell' = true) := by
                      rcases hsrc with ⟨rfl, rfl⟩ | ⟨a, c, newv, rfl, h1, h2, h3, h4⟩
                      · have := run_append_owned_none (P := P) w G.w0.heap.size t ty e i sz ht' hi _ 0 [] (World.ownsRow_nil w _ e sz)
                        exact ⟨_, w, [], this, World.ownsRow_nil w _ e sz, World.grownBy.refl w _, by simp [Value.ownBlock], by simp [RelL], by simp⟩
                      · obtain ⟨v', w', e1, e2, e3, e4⟩ := append_own_more (P := P) (w := w) G.w0.heap.size t ty e i z sz by_ ht' hi hz' hs hb hzs hsz _ 0 [] (World.ownsRow_nil w _ e sz) a news.length c newv h1 h2 h4 (by simp [maxLen]; omega) (by rw [Nat.zero_add]; exact small_bytes hby hlt) H.below.size
                        exact ⟨v', w', newv, e1, by simpa using e2, e3, fun g hg => (e4 g hg).resolve_left (by simp [Value.ownBlock]), h3, h4⟩
                    obtain ⟨v', w', newv, e1, e2, e3, e4, e5, e6⟩ := hres
                    let G' : Gh := { M := G.M, loc := fun i v => if i = nm ∧ v = 0 then some (v', sz) else G.loc i v, w0 := G.w0 }
                    have hnot : ∀ i ver x, G.loc i ver = some x → i ≠ nm := fun i ver x h e => H.dom i ver x h (e ▸ hn)
                    have hle : G.Le G' := ⟨fun _ _ _ h => h, fun i v y h => by
                      show (if i = nm ∧ v = 0 then _ else _) = _
                      rw [if_neg (fun e => hnot i v y h e.1)]; exact h, rfl⟩
                    have hloc : G'.loc nm 0 = some (v', sz) := by
                      show (if nm = nm ∧ 0 = 0 then _ else _) = _
                      simp
                    refine ⟨v', G', w', e1, hle, ?_, ?_⟩
                    · refine HRel.upd H hle rfl (fun i v y hy => ?_) e3 (fun g e => by cases e) ?_ ?_ (fun v hv => ?_)
                      · by_cases e : i = nm ∧ v = 0
                        · exact .inr e.1
                        · have : (if i = nm ∧ v = 0 then _ else G.loc i v) = some y := hy
                          rw [if_neg e] at this; exact .inl this
                      · refine ⟨v', newv, hloc, e2, RelL.mono hle e5, hnl, e6, fun g hg o => ?_⟩
                        cases hM : G.M g o with
                        | none => rfl
                        | some y => have := World.block_lt_of_cell? w _ (H.imm _ _ _ hM).1; have := e4 g hg; simp at *; omega
                      · intro g hg
                        simp only [cbOf, hloc, Option.bind_some] at hg
                        exact .inr (e4 g hg)
                      · simp only [Blk.ver] at hv
                        show (if nm = nm ∧ v = 0 then _ else G.loc nm v) = none
                        rw [if_neg (by omega)]
                        cases hg : G.loc nm v with
                        | none => rfl
                        | some x => exact absurd rfl (hnot nm v x hg)
                    · simp only [Rel]
                      rcases e2.2 with ⟨h1, h2⟩ | ⟨g, cap, cur, h1, _, _, h2, _⟩
                      · rw [h1] at hloc ⊢
                        exact ⟨none, 0, 0, sz, none, by rw [hloc], by omega, by omega, by simp [h2], by simp, by simp⟩
                      · rw [h1] at hloc ⊢
                        exact ⟨some ⟨g, 0, none⟩, _, cap, sz, some ⟨g, 0, none⟩, hloc, by omega, h2, by simp, by simp, by simp⟩
                  · cases ha
                | succ c0 => simp at ha
              | succ n0 => simp at ha
            | some a0 => simp at ha
          | _ => simp at ha
        | sl => simp at ha
      | own id ver off len =>
        cases off with
        | succ off => simp at ha
        | zero =>
          simp only at ha
          cases hk : h id with
          | none => rw [hk] at ha; cases ha
          | some k =>
            cases k with
            | row ver' e' sz' es =>
              rw [hk] at ha
              simp only at ha
              split at ha
              · rename_i hc
                obtain ⟨rfl, rfl, rfl, rfl, hlt⟩ := hc
                have hlt := hlt.lt
                cases ha
                refine ⟨by simp [hk], ?_⟩
                obtain ⟨v0, xs, l1, o1, r1, s1, on1, m1⟩ := H.blk id _ hk
                have hys : ys = v0 := by
                  simp only [Rel] at rs
                  obtain ⟨a, n, c, szr, a', hl, hoff, hnc, rfl, hz, ha'⟩ := rs
                  rw [hl] at l1
                  cases l1
                  have e4 := ha' (by simp)
                  rcases o1.2 with ⟨e1, e2⟩ | ⟨g, cap, cur, e1, _⟩
                  · injection e1 with q1 q2 q3
                    subst q1 q2 q3
                    simp at e4
                    subst e4
                    simp [e2]
                  · injection e1 with q1 q2 q3
                    subst q1 q2 q3
                    simp at e4
                    subst e4
                    simp
                subst hys
                exact step id ver' es ys xs G h rfl (.refl G) H hk l1 o1 r1 s1 on1 m1 hlt
              · cases ha
      | _ => simp at ha

end Go.AM
