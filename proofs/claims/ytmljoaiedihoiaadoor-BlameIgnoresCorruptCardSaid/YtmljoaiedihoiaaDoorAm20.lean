/- Operations are local: they look at their operands and at the blocks that these name. Drawn regions, computed. -/
import Derived.Test.YtmljoaiedihoiaaDoorAm19
namespace Go.AM
set_option linter.unusedVariables false
set_option linter.unusedSimpArgs false
open Go Go.RowKit
set_option linter.unusedSectionVars false
variable [Glob]

theorem ablk_rd {h : AHeap} {x : AV} : ∀ p ∈ ablk h x, h p.1 = some p.2 := by
  intro p hp
  cases x <;> simp only [ablk] at hp <;> first | (cases hp; done) | skip
  all_goals
    split at hp
    · rename_i k hk; simp at hp; subst hp; exact hk
    · cases hp

theorem ablko_rd {h : AHeap} {x : AV} : ∀ p ∈ ablko h x, h p.1 = some p.2 := by
  intro p hp
  cases x <;> simp only [ablko] at hp <;> first | (cases hp; done) | skip
  all_goals
    split at hp
    · rename_i k hk; simp at hp; subst hp; exact hk
    · cases hp

theorem acells_local {h h' : AHeap} {n : Nat} {x : AV} {cs : List AV} (hx : acells h n x = some cs) (hh : ∀ p ∈ ablk h x, h' p.1 = some p.2) : acells h' n x = some cs ∧ ablk h' x = ablk h x := by
  cases x with
  | ptr id ver i j =>
    cases hk : h id with
    | none => simp [acells, hk] at hx
    | some k =>
      have h1 := hh (id, k) (by simp [ablk, hk])
      simp only at h1
      refine ⟨?_, by simp [ablk, hk, h1]⟩
      simp only [acells, hk, h1] at hx ⊢
      exact hx
  | iptr cs => exact ⟨by simpa [acells] using hx, by simp [ablk]⟩
  | _ => simp [acells] at hx

theorem aload_local {P : Program} {h h' : AHeap} {t : TypeId} {x v : AV} (hx : aload P h t x = some v) (hh : ∀ p ∈ ablk h x, h' p.1 = some p.2) : aload P h' t x = some v ∧ ablk h' x = ablk h x := by
  unfold aload at hx ⊢
  split at hx
  · rw [Option.map_eq_some_iff] at hx
    obtain ⟨cs, hc, rfl⟩ := hx
    obtain ⟨h1, h2⟩ := acells_local hc hh
    exact ⟨by rw [h1]; rfl, h2⟩
  · rw [Option.bind_eq_some_iff] at hx
    obtain ⟨cs, hc, hv⟩ := hx
    obtain ⟨h1, h2⟩ := acells_local hc hh
    exact ⟨by rw [h1]; exact hv, h2⟩
  · cases hx

theorem astore_local {P : Program} {h h' : AHeap} {t : TypeId} {x v : AV} {id : Nat} {k k' : Blk} (hx : astore P h t x v = some (id, k, k')) (hh : h' id = some k) : astore P h' t x v = some (id, k, k') ∧ h id = some k := by
  unfold astore at hx ⊢
  split at hx
  · split at hx
    · rename_i id' ver i j
      cases hk : h id' with
      | none => rw [hk] at hx; cases hx
      | some kk =>
        cases kk with
        | row ver' e sz es =>
          rw [hk] at hx
          simp only at hx
          have hid : id' = id ∧ Blk.row ver' e sz es = k := by
            split at hx
            · split at hx
              · split at hx
                · cases hx; exact ⟨rfl, rfl⟩
                · cases hx
              · cases hx
            · cases hx
          obtain ⟨rfl, rfl⟩ := hid
          simp only [hh]
          exact ⟨hx, hk⟩
    · cases hx
  · cases hx

theorem asrc_local {h h' : AHeap} {sz : Nat} {x : AV} {es : List (List AV)} (hx : asrc h sz x = some es) (hh : ∀ p ∈ ablko h x, h' p.1 = some p.2) : asrc h' sz x = some es ∧ ablko h' x = ablko h x := by
  cases x with
  | own id ver off len =>
    cases hk : h id with
    | none => simp [asrc, hk] at hx
    | some k =>
      have h1 := hh (id, k) (by simp [ablko, hk])
      simp only at h1
      refine ⟨?_, by simp [ablko, hk, h1]⟩
      simp only [asrc, hk, h1] at hx ⊢
      exact hx
  | p x =>
    refine ⟨?_, by simp [ablko]⟩
    cases x with
    | sl => exact hx
    | v x =>
      cases x <;> first
        | exact hx
        | (rename_i a n c; cases a <;> cases n <;> cases c <;> exact hx)
  | _ => simp [asrc] at hx

theorem aapp_local {P : Program} {h h' : AHeap} {nm : Nat} {t : TypeId} {s x v : AV} {rd wr : Locs} (hx : aapp P h nm t s x = some (rd, wr, v)) (h1 : ∀ p ∈ rd, h' p.1 = some p.2) (h2 : ∀ p ∈ ablko h x, h' p.1 = some p.2) :
    aapp P h' nm t s x = some (rd, wr, v) ∧ ablko h' x = ablko h x ∧ (∀ p ∈ rd, h p.1 = some p.2) ∧ ∀ p ∈ wr, (∃ q ∈ rd, q.1 = p.1) ∨ p.1 = nm := by
  unfold aapp at hx ⊢
  split at hx
  · rename_i e sz by_ zs ht
    split at hx
    · rename_i hc
      rw [if_pos hc]
      cases hs : asrc h sz x with
      | none => rw [hs] at hx; cases hx
      | some news =>
        obtain ⟨a1, a2⟩ := asrc_local hs h2
        rw [hs] at hx
        rw [a1]
        simp only at hx ⊢
        cases s with
        | p y =>
          cases y with
          | v y =>
            cases y with
            | slice a0 n0 c0 =>
              cases a0 with
              | none =>
                cases n0 with
                | zero =>
                  cases c0 with
                  | zero =>
                    simp only at hx ⊢
                    split at hx
                    · rename_i hlt
                      rw [if_pos hlt]
                      cases hx
                      exact ⟨rfl, a2, by simp, by simp⟩
                    · cases hx
                  | succ => simp at hx
                | succ => simp at hx
              | some => simp at hx
            | _ => simp at hx
          | sl => simp at hx
        | own id ver off len =>
          cases off with
          | succ => simp at hx
          | zero =>
            simp only at hx ⊢
            cases hk : h id with
            | none => rw [hk] at hx; cases hx
            | some k =>
              cases k with
              | row ver' e' sz' es =>
                rw [hk] at hx
                simp only at hx
                split at hx
                · rename_i hq
                  cases hx
                  have := h1 _ (List.mem_singleton.2 rfl)
                  simp only at this
                  obtain ⟨rfl, rfl, rfl, rfl, hlt⟩ := hq
                  rw [this]
                  simp only
                  rw [if_pos ⟨trivial, trivial, trivial, trivial, hlt⟩]
                  refine ⟨rfl, a2, by simp [hk], by simp⟩
                · cases hx
        | _ => simp at hx
    · cases hx
  · cases hx

theorem aidx_local {P : Program} {h h' : AHeap} {t : TypeId} {x v : AV} {i : Int} (hx : aidx P h t x i = some v) (hh : ∀ p ∈ ablko h x, h' p.1 = some p.2) : aidx P h' t x i = some v ∧ ablko h' x = ablko h x := by
  have hb : ablko h' x = ablko h x := by
    cases x with
    | own id ver off len =>
      cases hk : h id with
      | none =>
        exfalso
        unfold aidx at hx
        split at hx
        · simp [hk] at hx
        · split at hx <;> simp at hx
      | some k => have h1 := hh (id, k) (by simp [ablko, hk]); simp only at h1; simp [ablko, hk, h1]
    | _ => simp [ablko]
  refine ⟨?_, hb⟩
  unfold aidx at hx ⊢
  split at hx
  · split at hx
    · exact hx
    · rename_i id ver off len
      cases hk : h id with
      | none => rw [hk] at hx; cases hx
      | some k =>
        have h1 := hh (id, k) (by simp [ablko, hk])
        simp only at h1
        rw [hk] at hx
        simp only [h1]
        exact hx
    · exact hx
    · cases hx
  · exact hx

theorem aslice_local {P : Program} {h h' : AHeap} {t : TypeId} {x v : AV} {lo hi mx : Option AV} (hx : aslice P h t x lo hi mx = some v) (hh : ∀ p ∈ ablko h x, h' p.1 = some p.2) : aslice P h' t x lo hi mx = some v ∧ ablko h' x = ablko h x := by
  unfold aslice at hx ⊢
  split at hx
  · split at hx
    · split at hx
      · rename_i hc
        rw [if_pos hc]
        cases x with
        | own id ver off len =>
          simp only at hx ⊢
          cases hk : h id with
          | none => rw [hk] at hx; cases hx
          | some k =>
            have h1 := hh (id, k) (by simp [ablko, hk])
            simp only at h1
            refine ⟨?_, by simp [ablko, hk, h1]⟩
            rw [hk] at hx
            simp only [h1]
            exact hx
        | p x => exact ⟨by cases x <;> exact hx, by simp [ablko]⟩
        | _ => exact ⟨hx, by simp [ablko]⟩
      · cases hx
    · cases hx
  · cases hx

theorem abuiltin_local {P : Program} {h h' : AHeap} {nm : Nat} {b : Builtin} {ts : List TypeId} {args : List AV} {rd wr : Locs} {v : AV} (hx : abuiltin P h nm b ts args = some (rd, wr, v)) (hh : ∀ p ∈ rd, h' p.1 = some p.2) :
    abuiltin P h' nm b ts args = some (rd, wr, v) ∧ (∀ p ∈ rd, h p.1 = some p.2) ∧ ∀ p ∈ wr, (∃ q ∈ rd, q.1 = p.1) ∨ p.1 = nm := by
  unfold abuiltin at hx ⊢
  split at hx
  · refine ⟨hx, ?_⟩
    split at hx
    · cases hx; simp
    · split at hx
      · rw [Option.map_eq_some_iff] at hx; obtain ⟨n, _, hx⟩ := hx; cases hx; simp
      · split at hx
        · split at hx
          · cases hx; simp
          · cases hx
        · cases hx
  · split at hx
    · rename_i e
      rw [if_pos e]
      rw [Option.map_eq_some_iff] at hx
      obtain ⟨⟨rd', wr', v'⟩, ha, hx⟩ := hx
      cases hx
      obtain ⟨h1, h2, h3, h4⟩ := aapp_local ha (fun p hp => hh p (List.mem_append_left _ hp)) (fun p hp => hh p (List.mem_append_right _ hp))
      refine ⟨by rw [h1, h2]; rfl, fun p hp => ?_, fun p hp => ?_⟩
      · rcases List.mem_append.1 hp with hp | hp
        · exact h3 p hp
        · exact ablko_rd p hp
      · rcases h4 p hp with ⟨q, hq, e⟩ | h
        · exact .inl ⟨q, List.mem_append_left _ hq, e⟩
        · exact .inr h
    · cases hx
  · refine ⟨hx, ?_⟩
    split at hx
    · split at hx
      · cases hx; simp
      · cases hx
    · cases hx
  · refine ⟨hx, ?_⟩
    split at hx
    · split at hx
      · cases hx; simp
      · cases hx
    · cases hx
  · cases hx

theorem map_ev {ev ev' : Operand → AV} : ∀ {l : List Operand}, (∀ x ∈ l, ev' x = ev x) → l.map ev' = l.map ev
  | [], _ => rfl
  | x :: l, h => by simp only [List.map_cons]; rw [h x (by simp), map_ev fun y hy => h y (by simp [hy])]

theorem map_ev2 {ev ev' : Operand → AV} : ∀ {l : List (Nat × Operand)}, (∀ x ∈ l.map (·.2), ev' x = ev x) → l.map (fun p => (p.1, ev' p.2)) = l.map (fun p => (p.1, ev p.2))
  | [], _ => rfl
  | x :: l, h => by simp only [List.map_cons] at h ⊢; rw [h x.2 (by simp), map_ev2 fun y hy => h y (by simp [hy])]

theorem aexec_ev {P : Program} {op : Op} {ev ev' : Operand → AV} (h : AHeap) (nm : Nat) (he : ∀ x ∈ op.operands, ev' x = ev x) : aexec P op ev' h nm = aexec P op ev h nm := by
  cases op with
  | build t parts => simp only [Op.operands] at he; simp only [aexec]; rw [map_ev2 fun x hx => he x (by simpa using hx)]
  | buildSlice t n parts => simp only [Op.operands] at he; simp only [aexec]; rw [map_ev2 fun x hx => he x (by simpa using hx)]
  | makeFunc f a b =>
    simp only [Op.operands] at he; simp only [aexec]
    rw [map_ev (l := a.toList) fun x hx => he x (by simp at hx ⊢; exact .inl hx), map_ev (l := b.toList) fun x hx => he x (by simp at hx ⊢; exact .inr hx)]
  | slice t x lo hi mx =>
    simp only [Op.operands] at he; simp only [aexec]
    rw [he x (by simp)]
    cases lo <;> cases hi <;> cases mx <;> simp_all
  | call c =>
    obtain ⟨callee, args, ats⟩ := c
    cases callee with
    | builtin b => simp only [Op.operands, Call.operands] at he; simp only [aexec]; rw [map_ev fun x hx => he x (by simpa using hx)]
    | _ => rfl
  | unOp o t x => simp only [Op.operands] at he; cases o <;> simp only [aexec] <;> (try rw [he x (by simp)])
  | move x => simp only [Op.operands] at he; simp only [aexec]; rw [he x (by simp)]
  | assign x => simp only [Op.operands] at he; simp only [aexec]; rw [he x (by simp)]
  | pick c a b => simp only [Op.operands] at he; simp only [aexec]; rw [he c (by simp), he a (by simp), he b (by simp)]
  | box e x => simp only [Op.operands] at he; simp only [aexec]; rw [he x (by simp)]
  | load t x => simp only [Op.operands] at he; simp only [aexec]; rw [he x (by simp)]
  | store t x y => simp only [Op.operands] at he; simp only [aexec]; rw [he x (by simp), he y (by simp)]
  | nilCheck x => simp only [Op.operands] at he; simp only [aexec]; rw [he x (by simp)]
  | binOp o t x y yt => simp only [Op.operands] at he; simp only [aexec]; rw [he x (by simp), he y (by simp)]
  | convert s d x => simp only [Op.operands] at he; simp only [aexec]; rw [he x (by simp)]
  | makeSlice t l c => simp only [Op.operands] at he; simp only [aexec]; rw [he l (by simp), he c (by simp)]
  | fieldAddr s x f => simp only [Op.operands] at he; simp only [aexec]; rw [he x (by simp)]
  | field s x f => simp only [Op.operands] at he; simp only [aexec]; rw [he x (by simp)]
  | indexAddr t x i => simp only [Op.operands] at he; simp only [aexec]; rw [he x (by simp), he i (by simp)]
  | index t x i => simp only [Op.operands] at he; simp only [aexec]; rw [he x (by simp), he i (by simp)]
  | extract x i => simp only [Op.operands] at he; simp only [aexec]; rw [he x (by simp)]
  | _ => rfl

theorem aexec_heap {P : Program} {op : Op} {ev : Operand → AV} {h h' : AHeap} {nm : Nat} {rd wr : Locs} {v : AV} (hx : aexec P op ev h nm = some (rd, wr, v)) (hh : ∀ p ∈ rd, h' p.1 = some p.2) :
    aexec P op ev h' nm = some (rd, wr, v) ∧ (∀ p ∈ rd, h p.1 = some p.2) ∧ ∀ p ∈ wr, (∃ q ∈ rd, q.1 = p.1) ∨ p.1 = nm := by
  cases op with
  | load t x =>
    simp only [aexec, Option.map_eq_some_iff] at hx ⊢
    obtain ⟨v', hl, hx⟩ := hx
    cases hx
    obtain ⟨h1, h2⟩ := aload_local hl hh
    exact ⟨⟨_, h1, by rw [h2]⟩, ablk_rd, by simp⟩
  | store t x y =>
    simp only [aexec, Option.map_eq_some_iff] at hx ⊢
    obtain ⟨⟨id, k, k'⟩, hl, hx⟩ := hx
    cases hx
    obtain ⟨h1, h2⟩ := astore_local hl (hh _ (List.mem_singleton.2 rfl))
    exact ⟨⟨_, h1, rfl⟩, by simp [h2], by simp⟩
  | slice t x lo hi mx =>
    simp only [aexec] at hx ⊢
    split at hx
    · rename_i hc
      rw [if_pos hc]
      split at hx
      · rw [Option.map_eq_some_iff] at hx ⊢
        obtain ⟨v', hl, hx⟩ := hx
        cases hx
        obtain ⟨h1, h2⟩ := aslice_local hl hh
        exact ⟨⟨_, h1, by rw [h2]⟩, ablko_rd, by simp⟩
      · refine ⟨hx, ?_⟩
        split at hx
        · cases hx
        · rw [Option.map_eq_some_iff] at hx
          obtain ⟨v', hl, hx⟩ := hx
          cases hx
          simp
    · cases hx
  | convert s d x =>
    simp only [aexec] at hx ⊢
    split at hx
    · rename_i h1 h2 h3
      cases hx
      exact ⟨rfl, by simp, by simp⟩
    · split at hx
      · rename_i hc
        rw [if_pos hc]
        split at hx
        · rename_i es hs
          rw [Option.map_eq_some_iff] at hx
          obtain ⟨b, hb, hx⟩ := hx
          cases hx
          obtain ⟨h1, h2⟩ := asrc_local hs hh
          rw [h1]
          refine ⟨?_, ablko_rd, by simp⟩
          simp only [hb, Option.map_some, h2]
        · cases hx
      · cases hx
  | indexAddr t x i =>
    simp only [aexec] at hx ⊢
    split at hx
    · rw [Option.map_eq_some_iff] at hx ⊢
      obtain ⟨v', hl, hx⟩ := hx
      cases hx
      obtain ⟨h1, h2⟩ := aidx_local hl hh
      exact ⟨⟨_, h1, by rw [h2]⟩, ablko_rd, by simp⟩
    · cases hx
  | call c =>
    obtain ⟨callee, args, ats⟩ := c
    cases callee with
    | builtin b => simp only [aexec] at hx ⊢; exact abuiltin_local hx hh
    | _ => simp [aexec] at hx
  | unOp o t x =>
    cases o <;> simp only [aexec] at hx <;> first
      | (cases hx; done)
      | (refine ⟨by simp only [aexec]; exact hx, ?_⟩; (repeat' split at hx) <;> first | (cases hx; done) | (cases hx; simp; done))
  | _ =>
    refine ⟨by simp only [aexec] at hx ⊢; exact hx, ?_⟩
    simp only [aexec] at hx
    (repeat' split at hx) <;> first
      | (cases hx; done)
      | (cases hx; simp; done)
      | (obtain ⟨rfl, rfl, _⟩ := aeqx_some hx; simp; done)
      | (rw [Option.map_eq_some_iff] at hx; obtain ⟨_, _, hx⟩ := hx; cases hx; simp; done)

theorem aexec_loc {P : Program} {o : Oper} {t : Slots} {h : AHeap} {nm : Nat} {rd wr : Locs} {v : AV} (hn : h nm = none) (hx : aexec P o.op (aev t) h nm = some (rd, wr, v)) : OpLoc P o t ⟨true, rd, wr, v⟩ := by
  intro t' h' he hr hw _ G a w H hev K Q' hK
  obtain ⟨h1, h2, h3⟩ := aexec_heap hx hr
  have h4 := aexec_ev (P := P) h' nm he
  rw [h1] at h4
  refine oper_wp_of_run (aexec_run H (fun p hp e => ?_) hev h4) hK
  rcases hw p hp with ⟨q, hq, e2⟩ | h
  · have := h2 q hq
    rw [e2, e, hn] at this
    cases this
  · rw [← e]; exact h

end Go.AM
