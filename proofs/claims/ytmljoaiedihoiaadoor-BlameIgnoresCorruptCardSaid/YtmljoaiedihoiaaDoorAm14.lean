/- The machine follows 'aexec'. -/
import Derived.Test.YtmljoaiedihoiaaDoorAm13
import Derived.Laws.BytesString
import Derived.Laws.Small
namespace Go.AM
set_option linter.unusedVariables false
set_option linter.unusedSimpArgs false
open Go Go.RowKit
set_option linter.unusedSectionVars false
variable [Glob]

theorem relL_map {G : Gh} {ev : Operand → AV} {f : Operand → Value} (he : ∀ x, Rel G (ev x) (f x)) : ∀ (l : List Operand), RelL G (l.map ev) (l.map f)
  | [] => by simp [RelL]
  | x :: l => by simp only [List.map_cons, RelL]; exact ⟨he x, relL_map he l⟩

theorem relL_parts {G : Gh} {ev : Operand → AV} {f : Operand → Value} (he : ∀ x, Rel G (ev x) (f x)) : ∀ (l : List (Nat × Operand)),
    RelL G ((l.map fun p => (p.1, ev p.2)).map (·.2)) ((l.map fun p => (p.1, f p.2)).map (·.2)) ∧ (l.map fun p => (p.1, ev p.2)).map (·.1) = (l.map fun p => (p.1, f p.2)).map (·.1)
  | [] => by simp [RelL]
  | p :: l => by
    have := relL_parts he l
    simp only [List.map_cons, RelL]
    exact ⟨⟨he _, this.1⟩, by rw [this.2]⟩

theorem OpRun.pure {P : Program} {o : Oper} {a : Act} {w : World} {G : Gh} {h : AHeap} {v : AV} {u : Value} (H : HRel G h w) (hr : (execOp a.eval o).run P w = .ok (.value u) w) (r : Rel G v u) : OpRun P o a w G h [] v :=
  ⟨u, G, w, .inl hr, .refl G, H, r⟩

theorem rel_val {G : Gh} {v : Value} : Rel G (.p (.v v)) v := by simp [Rel, PRel]

theorem abuiltin_run {P : Program} {G : Gh} {h : AHeap} {w : World} (H : HRel G h w) {nm : Nat} {b : Builtin} {ts : List TypeId} {args : List AV} {rd wr : List (Nat × Blk)} {v : AV} (hn : ∀ p ∈ wr, p.1 = nm → h nm = none)
    (hx : abuiltin P h nm b ts args = some (rd, wr, v)) {vs : List Value} (hr : RelL G args vs) (ty : TypeId) (cs : Array Bool) :
    ∃ u G' w', (builtin b ts.toArray ty cs vs.toArray).run P w = .ok (.value u) w' ∧ G.Le G' ∧ HRel G' (hp h wr) w' ∧ Rel G' v u := by
  unfold abuiltin at hx
  split at hx
  · -- len
    rename_i t x
    cases vs with
    | nil => simp [RelL] at hr
    | cons y vs =>
      cases vs with
      | cons => simp [RelL] at hr
      | nil =>
        simp only [RelL] at hr
        cases hl : tLen P t with
        | some n =>
          rw [hl] at hx
          cases hx
          unfold tLen at hl
          cases hd : P.underlying t with
          | none => simp [hd] at hl
          | some d =>
            cases d <;> simp [hd] at hl
            subst hl
            exact ⟨_, G, w, by simp [builtin, Builtin.len_, run_underlying hd, goInt], .refl G, H, rel_val⟩
        | none =>
          rw [hl] at hx
          simp only at hx
          cases ht : tElem P t with
          | none =>
            rw [ht] at hx
            simp only at hx
            split at hx
            · rename_i hs
              split at hx
              · rename_i str hv
                cases hx
                have e1 := AV.val_rel hv hr.1
                subst e1
                exact ⟨_, G, w, by simp [builtin, Builtin.len_, run_underlying (tStr_run hs), goInt], .refl G, H, rel_val⟩
              · cases hx
            · cases hx
          | some q =>
            obtain ⟨e, sz, by_, zs⟩ := q
            obtain ⟨i, z, ht', _⟩ := tElem_parts ht
            rw [ht] at hx
            simp only [Option.map_eq_some_iff] at hx
            obtain ⟨n, hn', hx⟩ := hx
            cases hx
            obtain ⟨a', c, rfl⟩ := alen_rel hn' hr.1
            exact ⟨_, G, w, by simp [builtin, Builtin.len_, run_underlying ht', goInt], .refl G, H, rel_val⟩
  · -- append
    rename_i t t' s x
    split at hx
    case isFalse => cases hx
    rename_i e
    subst e
    rw [Option.map_eq_some_iff] at hx
    obtain ⟨⟨rd', wr', v'⟩, ha, hx⟩ := hx
    cases hx
    match vs, hr with
    | [ys, yx], hr =>
      simp only [RelL] at hr
      obtain ⟨_, u, G', w', h1, h2, h3, h4⟩ := aapp_rel (ty := ty) H (fun p hp e => hn p hp e) ha hr.1 hr.2.1
      exact ⟨u, G', w', by simp [builtin, h1], h2, h3, h4⟩
    | [], hr => simp [RelL] at hr
    | [_], hr => simp [RelL] at hr
    | _ :: _ :: _ :: _, hr => simp [RelL] at hr
  · -- max
    rename_i x y
    match vs, hr with
    | [a, b], hr =>
      simp only [RelL] at hr
      split at hx
      · rename_i k a1 k' b1 h1 h2
        split at hx
        · rename_i e
          subst e
          cases hx
          have e1 := AV.val_rel h1 hr.1
          have e2 := AV.val_rel h2 hr.2.1
          subst e1 e2
          exact ⟨_, G, w, by simp [builtin, run_max_int2], .refl G, H, rel_val⟩
        · cases hx
      · cases hx
    | [], hr => simp [RelL] at hr
    | [_], hr => simp [RelL] at hr
    | _ :: _ :: _ :: _, hr => simp [RelL] at hr
  · -- min
    rename_i x y
    match vs, hr with
    | [a, b], hr =>
      simp only [RelL] at hr
      split at hx
      · rename_i k a1 k' b1 h1 h2
        split at hx
        · rename_i e
          subst e
          cases hx
          have e1 := AV.val_rel h1 hr.1
          have e2 := AV.val_rel h2 hr.2.1
          subst e1 e2
          exact ⟨_, G, w, by simp [builtin, run_min_int2], .refl G, H, rel_val⟩
        · cases hx
      · cases hx
    | [], hr => simp [RelL] at hr
    | [_], hr => simp [RelL] at hr
    | _ :: _ :: _ :: _, hr => simp [RelL] at hr
  · cases hx

theorem tZero_run {P : Program} {e : TypeId} {zs : List Value} (h : tZero P e = some zs) (w : World) : ∃ z, (zeroValue e).run P w = .ok z w ∧ z.cells.toList = zs := by
  unfold tZero at h
  cases hi : P.info? e with
  | none => simp [hi] at h
  | some i =>
    cases hz : i.zero with
    | none => simp [hi, hz] at h
    | some z => simp [hi, hz] at h; exact ⟨z, by simp [zeroValue, typeInfo, hi, hz], h⟩

theorem tKind_run {P : Program} {t : TypeId} {k : IntKind} (h : tKind P t = some k) : P.underlying t = some (.int k) := by
  unfold tKind at h
  cases hd : P.underlying t with
  | none => simp [hd] at h
  | some d => cases d <;> simp [hd] at h; subst h; rfl

theorem mapSome {ev : Operand → AV} {G : Gh} {f : Operand → Value} (he : ∀ x, Rel G (ev x) (f x)) (x : Option Operand) : (∀ p q, x.map ev = some p → x.map f = some q → Rel G p q) ∧ (x.map ev).isSome = (x.map f).isSome := by
  cases x with
  | none => simp
  | some x => simp only [Option.map_some, Option.isSome_some, and_true]; intro p q h1 h2; cases h1; cases h2; exact he x

theorem tBytes_parts {P : Program} {t : TypeId} (h : tBytes P t = true) : ∃ e, P.underlying t = some (.slice e) ∧ ∀ w : World, (underlying e).run P w = .ok (.int .u8) w := by
  unfold tBytes at h
  split at h
  · rename_i e by_ zs ht
    obtain ⟨i, z, h1, _⟩ := tElem_parts ht
    split at h
    · rename_i hu
      exact ⟨e, h1, fun w => run_underlying hu w⟩
    · cases h
  · cases h

theorem abytes_fold {G : Gh} : ∀ {es : List (List AV)} {vs : List Value}, es.all (fun c => match c with | [.p (.v (.int .u8 _))] => true | _ => false) = true → RelL G es.flatten vs →
    ∃ ns : List Int, vs = ns.map (Value.int .u8) ∧ ∀ r : ByteArray, ns.foldl (fun r n => r.push (UInt8.ofNat n.toNat)) r = es.foldl (fun r c => match c with | [.p (.v (.int .u8 n))] => r.push (UInt8.ofNat n.toNat) | _ => r) r
  | [], [], _, _ => ⟨[], rfl, fun _ => rfl⟩
  | [], _ :: _, _, h => by simp [RelL] at h
  | e :: es, vs, h, r => by
    simp only [List.all_cons, Bool.and_eq_true] at h
    obtain ⟨h1, h2⟩ := h
    split at h1
    · rename_i n
      cases vs with
      | nil => simp [RelL] at r
      | cons v vs =>
        simp only [List.flatten_cons, List.cons_append, List.nil_append, RelL, Rel, PRel] at r
        obtain ⟨rfl, r⟩ := r
        obtain ⟨ns, q1, q2⟩ := abytes_fold h2 r
        exact ⟨n :: ns, by simp [q1], fun b => by simp only [List.foldl_cons]; exact q2 _⟩
    · cases h1
theorem abytes_vals {G : Gh} {es : List (List AV)} {vs : List Value} {b : ByteArray} (h : abytes es = some b) (r : RelL G es.flatten vs) :
    ∃ ns : List Int, vs = ns.map (Value.int .u8) ∧ ns.foldl (fun r n => r.push (UInt8.ofNat n.toNat)) ByteArray.empty = b := by
  unfold abytes at h
  split at h
  · rename_i hc
    cases h
    obtain ⟨ns, q1, q2⟩ := abytes_fold hc r
    exact ⟨ns, q1, q2 _⟩
  · cases h

theorem aexec_run {P : Program} {o : Oper} {a : Act} {w : World} {G : Gh} {h : AHeap} {nm : Nat} {ev : Operand → AV} {rd wr : List (Nat × Blk)} {v : AV} (H : HRel G h w) (hn0 : ∀ p ∈ wr, p.1 = nm → h nm = none) (he : ∀ x, Rel G (ev x) (a.eval x))
    (hx : aexec P o.op ev h nm = some (rd, wr, v)) : OpRun P o a w G h wr v := by
  obtain ⟨dst, op, type, pos, after, guard⟩ := o
  simp only at hx
  cases op with
  | move x => simp only [aexec] at hx; cases hx; exact .pure H (by simp [execOp]) (he x)
  | assign x => simp only [aexec] at hx; cases hx; exact .pure H (by simp [execOp]) (he x)
  | pick c p q =>
    simp only [aexec] at hx
    split at hx
    · rename_i t ht
      cases hx
      have := AV.val_rel ht (he c)
      refine .pure (u := if t then a.eval p else a.eval q) H (by simp [execOp, this, asBool]) (by cases t <;> simp <;> exact he _)
    · cases hx
  | alloc e =>
    simp only [aexec] at hx
    split at hx
    · rename_i zs hz
      split at hx
      · rename_i hone
        cases hx
        have hn : h nm = none := hn0 _ (List.mem_singleton.2 rfl) rfl
        obtain ⟨z, hr, hzc⟩ := tZero_run hz w
        have hall : ∀ v ∈ zs, v.oneCell' = true := by simpa using hone
        obtain ⟨G', w', h1, h2, h3, h4⟩ := new_one (P := P) H hn e (cs := pv zs) (u := z) (by rw [hzc]; exact pv_rel zs) (by
          intro c hc; simp only [pv, List.mem_map] at hc; obtain ⟨v, hv, rfl⟩ := hc; exact hall v hv)
        exact ⟨_, G', w', .inl (by simp [execOp, Instr.alloc, hr, h1]), h2, h3, h4⟩
      · cases hx
    · cases hx
  | box e x =>
    simp only [aexec] at hx
    split at hx
    · rename_i hone
      cases hx
      have hn : h nm = none := hn0 _ (List.mem_singleton.2 rfl) rfl
      have hall : ∀ c ∈ cellsOf (ev x), c.one = true := by simpa using hone
      obtain ⟨G', w', h1, h2, h3, h4⟩ := new_one (P := P) H hn e (cellsOf_rel hall (he x)) hall
      exact ⟨_, G', w', .inl (by simp [execOp, Instr.box, h1]), h2, h3, h4⟩
    · cases hx
  | build t parts =>
    simp only [aexec, Option.map_eq_some_iff] at hx
    obtain ⟨v', hb, hx⟩ := hx
    cases hx
    have hp' := relL_parts he parts.toList
    obtain ⟨u, h1, h2⟩ := abuild_rel (w := w) hb hp'.1 hp'.2
    refine .pure H ?_ h2
    have : (parts.map fun (i, x) => (i, a.eval x)) = (parts.toList.map fun p => (p.1, a.eval p.2)).toArray := by
      apply Array.ext'; simp
    simp only [execOp, this, Sem.run_bind, h1, Result.andThen_ok, Sem.run_pure]
  | buildSlice t len parts =>
    simp only [aexec] at hx
    split at hx
    · rename_i e sz by_ zs ht
      split at hx
      · rename_i hc
        obtain ⟨c1, c2, c3, c4⟩ := hc
        split at hx
        · rename_i out ho
          split at hx
          · rename_i hq
            cases hx
            have hn : h nm = none := hn0 _ (List.mem_singleton.2 rfl) rfl
            have hp' := relL_parts he parts.toList
            obtain ⟨f1, f2, f3⟩ := chunks_flat sz len out hq.1
            obtain ⟨u, G', w', h1, h2, h3, h4⟩ := build_slice H hn ht c1 c2 c3 c4 ho f1 f2 f3 hq.2 hp'.1 hp'.2
            have : (parts.map fun (i, x) => (i, a.eval x)) = (parts.toList.map fun p => (p.1, a.eval p.2)).toArray := by
              apply Array.ext'; simp
            exact ⟨u, G', w', .inl (by simp only [execOp, this, Sem.run_bind, h1, Result.andThen_ok, Sem.run_pure]), h2, h3, h4⟩
          · cases hx
        · cases hx
      · cases hx
    · cases hx
  | load t x =>
    simp only [aexec, Option.map_eq_some_iff] at hx
    obtain ⟨v', hl, hx⟩ := hx
    cases hx
    obtain ⟨u, h1, h2⟩ := aload_rel H hl (he x)
    exact .pure H (by simp [execOp, h1]) h2
  | store t x y =>
    simp only [aexec, Option.map_eq_some_iff] at hx
    obtain ⟨⟨id, k, k'⟩, hl, hx⟩ := hx
    cases hx
    obtain ⟨_, w', h1, h2⟩ := astore_rel H hl (he x) (he y)
    exact ⟨undef, G, w', .inr ⟨by simp [execOp, h1], rfl⟩, .refl G, h2, rel_val⟩
  | nilCheck x =>
    simp only [aexec] at hx
    have hr := he x
    split at hx
    · rename_i e; rw [e] at hr; cases hx
      have hr' := hr
      simp only [Rel] at hr
      obtain ⟨g, n, c, sz, h1, h2⟩ := hr
      exact .pure H (by simp [execOp, h2]) hr'
    · rename_i e; rw [e] at hr; cases hx
      have hr' := hr
      simp only [Rel] at hr
      obtain ⟨b, o, h1, h2⟩ := hr
      exact .pure H (by simp [execOp, h1]) hr'
    · rename_i e; rw [e] at hr; cases hx
      have hr' := hr
      simp only [Rel] at hr
      obtain ⟨a1, b1, h1, h2, h3⟩ := hr
      exact .pure H (by simp [execOp, h1]) hr'
    · cases hx
  | binOp o t x y yt =>
    simp only [aexec] at hx
    have key : aeqx P o t (ev x) (ev y) = some (rd, wr, v) → OpRun P ⟨dst, .binOp o t x y yt, type, pos, after, guard⟩ a w G h wr v := by
      intro hx
      obtain ⟨rfl, rfl, r, h1, h2⟩ := aeqx_some hx
      have := aeqv_run (w := w) h1 (he x) (he y) x y
      rcases h2 with ⟨rfl, rfl⟩ | ⟨rfl, rfl⟩
      · refine .pure H ?_ rel_val
        simp only [execOp]
        rw [Sem.run_bind, this.1]; rfl
      · refine .pure H ?_ rel_val
        simp only [execOp]
        rw [Sem.run_bind, this.2]; rfl
    split at hx
    · rename_i p q hp' hq'
      split at hx
      · rename_i u hu
        cases hx
        have e1 := AV.val_rel hp' (he x)
        have e2 := AV.val_rel hq' (he y)
        have := abin_run (P := P) hu t x y w
        refine .pure H ?_ rel_val
        simp only [execOp, e1, e2]
        rw [Sem.run_bind, this]; rfl
      · exact key hx
    · exact key hx
  | unOp o t x =>
    cases o with
    | not =>
      simp only [aexec] at hx
      split at hx
      · rename_i b hb
        cases hx
        have e1 := AV.val_rel hb (he x)
        exact .pure H (by simp [execOp, e1, Op.unary]) rel_val
      · cases hx
    | _ => simp [aexec] at hx
  | convert s d x =>
    simp only [aexec] at hx
    split at hx
    · rename_i k1 k k2 n h1 h2 h3
      cases hx
      have e1 := AV.val_rel h3 (he x)
      refine .pure H ?_ rel_val
      simp [execOp, e1, convert, run_underlying (tKind_run h1), run_underlying (tKind_run h2), Conv.intToInt]
    · split at hx
      · rename_i hc
        split at hx
        · rename_i es hs
          rw [Option.map_eq_some_iff] at hx
          obtain ⟨b, hb, hx⟩ := hx
          cases hx
          obtain ⟨e, u1, u2⟩ := tBytes_parts hc.2
          obtain ⟨_, hsrc⟩ := asrc_rel H hs (he x)
          refine .pure H (u := .string b) ?_ rel_val
          have ud := run_underlying (tStr_run hc.1)
          have us := run_underlying u1
          have key : (convert s d (a.eval x)).run P w = .ok (.string b) w := by
            rcases hsrc with ⟨e1, e2⟩ | ⟨ad, c, news, e1, e2, e3, e4, e5⟩
            · rw [e1]
              subst e2
              simp [abytes] at hb
              subst hb
              simp [convert, us, ud, u2, Conv.bytesToString]
            · rw [e1]
              obtain ⟨ns, n1, n2⟩ := abytes_vals hb e4
              have hl := run_loadCells_list (P := P) w ad news e3
              rw [e2, Nat.mul_one] at hl
              rw [n1] at hl
              have := run_bytesToString w ad es.length c ns (by rw [hl])
              rw [n2] at this
              simp [convert, us, ud, u2, this]
          simp [execOp, key]
        · cases hx
      · cases hx
  | makeFunc f p q =>
    simp only [aexec] at hx
    cases hx
    refine .pure H (u := .func f (p.map a.eval) (q.map a.eval)) (by simp [execOp, Instr.makeFunc]) ?_
    simp only [Rel]
    exact ⟨_, _, rfl, by simpa using relL_map he p.toList, by simpa using relL_map he q.toList⟩
  | makeSlice t l c =>
    simp only [aexec] at hx
    split at hx
    · rename_i e sz by_ zs k1 n k2 m h1 h2 h3
      split at hx
      · rename_i hc
        obtain ⟨c1, c2, c3, c4, c5, rfl⟩ := hc
        cases hx
        have hn : h nm = none := hn0 _ (List.mem_singleton.2 rfl) rfl
        have e1 := AV.val_rel h2 (he l)
        have e2 := AV.val_rel h3 (he c)
        obtain ⟨u, G', w', r1, r2, r3, r4⟩ := make_rel H hn h1 c1 c2 k1 k2 m.toNat c3 c5.lt
        have hm : ((m.toNat : Nat) : Int) = m := by omega
        rw [hm] at r1
        exact ⟨u, G', w', .inl (by simp [execOp, e1, e2, r1]), r2, r3, r4⟩
      · cases hx
    · cases hx
  | slice t x lo hi mx =>
    simp only [aexec] at hx
    split at hx
    · rename_i hmx
      split at hx
      · rw [Option.map_eq_some_iff] at hx
        obtain ⟨v', hs, hx⟩ := hx
        cases hx
        obtain ⟨u, h1, h2⟩ := aslice_rel H hs (he x) (mapSome he lo).1 (mapSome he hi).1 (mapSome he mx).1 (mapSome he lo).2 (mapSome he hi).2 (mapSome he mx).2 (by simpa using hmx)
        exact .pure H (by simp [execOp, h1]) h2
      · split at hx
        · cases hx
        · rename_i hm
          cases mx with
          | some => simp at hm
          | none =>
            rw [Option.map_eq_some_iff] at hx
            obtain ⟨v', hs, hx⟩ := hx
            cases hx
            obtain ⟨u, h1, h2⟩ := aslx_rel (w := w) hs (he x) (mapSome he lo).1 (mapSome he hi).1 (mapSome he lo).2 (mapSome he hi).2
            exact .pure H (by simp [execOp, h1]) h2
    · cases hx
  | index t x i =>
    simp only [aexec] at hx
    split at hx
    · rename_i k n hi
      have ei := AV.val_rel hi (he i)
      split at hx
      · rename_i len sz ag ht
        obtain ⟨e, hu, hag⟩ := tArr_parts ht
        obtain ⟨_, hsz⟩ := run_isAgg hag w
        split at hx
        · rename_i cs hxx
          split at hx
          · rename_i hc
            rw [Option.map_eq_some_iff] at hx
            obtain ⟨v', hp', hx⟩ := hx
            cases hx
            have hr := he x
            rw [hxx] at hr
            simp only [Rel] at hr
            obtain ⟨vs, ex, hr⟩ := hr
            obtain ⟨u, h1, h2⟩ := apart_rel (w := w) hag hp' hr
            refine .pure H ?_ h2
            simp [execOp, ex, ei, Instr.index, asIntOf, run_underlying hu, hc, hsz, h1]
          · cases hx
        · cases hx
      · split at hx
        · rename_i s hs
          split at hx
          · rename_i hc
            rw [Option.map_eq_some_iff] at hx
            obtain ⟨b, hb, hx⟩ := hx
            cases hx
            have ex := AV.val_rel hs (he x)
            refine .pure H ?_ rel_val
            simp [execOp, ex, ei, Instr.index, asIntOf, run_underlying (tStr_run hc.1), hc.2, hb]
          · cases hx
        · cases hx
    · cases hx
  | fieldAddr s x f =>
    simp only [aexec, Option.map_eq_some_iff] at hx
    obtain ⟨v', hf, hx⟩ := hx
    cases hx
    obtain ⟨u, h1, h2⟩ := afld_rel (w := w) hf (he x)
    exact .pure H (by simp [execOp, h1]) h2
  | field s x f =>
    simp only [aexec] at hx
    split at hx
    · rename_i off ag sz cs h1 h2
      rw [Option.map_eq_some_iff] at hx
      obtain ⟨v', hp', hx⟩ := hx
      cases hx
      obtain ⟨fs, fx, hd, hf, rfl, hag⟩ := tField_parts h1
      have hr := he x
      rw [h2] at hr
      simp only [Rel] at hr
      obtain ⟨vs, e1, hr⟩ := hr
      obtain ⟨u, r1, r2⟩ := apart_rel (w := w) hag hp' hr
      exact .pure H (by simp [execOp, e1, Instr.field, run_underlying hd, hf, asAgg, r1]) r2
    · cases hx
  | indexAddr t x i =>
    simp only [aexec] at hx
    split at hx
    · rename_i k n hi
      rw [Option.map_eq_some_iff] at hx
      obtain ⟨v', hp', hx⟩ := hx
      cases hx
      have e1 := AV.val_rel hi (he i)
      obtain ⟨u, r1, r2⟩ := aidx_rel (k := k) H hp' (he x)
      exact .pure H (by simp [execOp, e1, r1]) r2
    · cases hx
  | extract x i =>
    simp only [aexec] at hx
    split at hx
    · rename_i cs h2
      rw [Option.map_eq_some_iff] at hx
      obtain ⟨v', hp', hx⟩ := hx
      cases hx
      have hr := he x
      rw [h2] at hr
      simp only [Rel] at hr
      obtain ⟨vs, e1, hr⟩ := hr
      obtain ⟨u, r1, r2⟩ := RelL.get i v hr hp'
      have : vs[i]? = some u := by simpa using r1
      exact .pure H (by simp [execOp, e1, Instr.extract, this]) r2
    · cases hx
  | call c =>
    obtain ⟨callee, args, argTypes⟩ := c
    cases callee with
    | builtin b =>
      simp only [aexec] at hx
      obtain ⟨u, G', w', h1, h2, h3, h4⟩ := abuiltin_run H hn0 hx (vs := args.toList.map a.eval) (relL_map he _) type (args.map fun | .const _ => true | _ => false)
      refine ⟨u, G', w', .inl ?_, h2, h3, h4⟩
      have e1 : (args.toList.map a.eval).toArray = args.map a.eval := by apply Array.ext'; simp
      have e2 : argTypes.toList.toArray = argTypes := by simp
      rw [e1, e2] at h1
      simp only [execOp, resolve, Sem.run_bind, Sem.run_pure, Result.andThen_ok, invoke]
      exact h1
    | _ => simp [aexec] at hx
  | _ => simp [aexec] at hx

end Go.AM
