/- The logic of abstract heaps for Go programs, merged out of several texts. -/
import Derived.Test.YtngghimofbefjaaGreatDoorM1
import Derived.Laws.BytesString
import Derived.Laws.Small
import Derived.RangeFuncLeaves
import Derived.RangeFuncOwn
import Derived.ChangeArms
import Derived.OpenShut
import Derived.WideShapes
import Derived.Deep.Slices
import Derived.LaidMore
import Derived.MakeChecks
/- The machine follows 'aexec'. -/
namespace Go.AM
set_option linter.unusedVariables false
set_option linter.unusedSimpArgs false
open Go Go.RowKit
set_option linter.unusedSectionVars false
variable [Glob]

theorem relL_map {G : Gh} {ev : Operand → AV} {f : Operand → Value} (he : ∀ x, Rel G (ev x) (f x)) : ∀ (l : List Operand), RelL G (l.map ev) (l.map f)
  | [] => by simp [RelL]
  | x :: l => by simp only [List.map_cons, RelL]; exact ⟨he x, relL_map he l⟩

theorem relL_parts {G : Gh} {ev : Operand → AV} {f : Operand → Value} (he : ∀ x, Rel G (ev x) (f x)) : ∀ (l : List (Nat × Operand)),
    RelL G ((l.map fun p => (p.1, ev p.2)).map (·.2)) ((l.map fun p => (p.1, f p.2)).map (·.2)) ∧ (l.map fun p => (p.1, ev p.2)).map (·.1) = (l.map fun p => (p.1, f p.2)).map (·.1)
  | [] => by simp [RelL]
  | p :: l => by
    have := relL_parts he l
    simp only [List.map_cons, RelL]
    exact ⟨⟨he _, this.1⟩, by rw [this.2]⟩

theorem OpRun.pure {P : Program} {o : Oper} {a : Act} {w : World} {G : Gh} {h : AHeap} {v : AV} {u : Value} (H : HRel G h w) (hr : (execOp a.eval o).run P w = .ok (.value u) w) (r : Rel G v u) : OpRun P o a w G h [] v :=
  ⟨u, G, w, .inl hr, .refl G, H, r⟩

theorem rel_val {G : Gh} {v : Value} : Rel G (.p (.v v)) v := by simp [Rel, PRel]

theorem abuiltin_run {P : Program} {G : Gh} {h : AHeap} {w : World} (H : HRel G h w) {nm : Nat} {b : Builtin} {ts : List TypeId} {args : List AV} {rd wr : List (Nat × Blk)} {v : AV} (hn : ∀ p ∈ wr, p.1 = nm → h nm = none)
    (hx : abuiltin P h nm b ts args = some (rd, wr, v)) {vs : List Value} (hr : RelL G args vs) (ty : TypeId) (cs : Array Bool) :
    ∃ u G' w', (builtin b ts.toArray ty cs vs.toArray).run P w = .ok (.value u) w' ∧ G.Le G' ∧ HRel G' (hp h wr) w' ∧ Rel G' v u := by
  unfold abuiltin at hx
  split at hx
  · -- len
    rename_i t x
    cases vs with
    | nil => simp [RelL] at hr
    | cons y vs =>
      cases vs with
      | cons => simp [RelL] at hr
      | nil =>
        simp only [RelL] at hr
        cases hl : tLen P t with
        | some n =>
          rw [hl] at hx
          cases hx
          unfold tLen at hl
          cases hd : P.underlying t with
          | none => simp [hd] at hl
          | some d =>
            cases d <;> simp [hd] at hl
            subst hl
            exact ⟨_, G, w, by simp [builtin, Builtin.len_, run_underlying hd, goInt], .refl G, H, rel_val⟩
        | none =>
          rw [hl] at hx
          simp only at hx
          cases ht : tElem P t with
          | none =>
            rw [ht] at hx
            simp only at hx
            split at hx
            · rename_i hs
              split at hx
              · rename_i str hv
                cases hx
                have e1 := AV.val_rel hv hr.1
                subst e1
                exact ⟨_, G, w, by simp [builtin, Builtin.len_, run_underlying (tStr_run hs), goInt], .refl G, H, rel_val⟩
              · cases hx
            · cases hx
          | some q =>
            obtain ⟨e, sz, by_, zs⟩ := q
            obtain ⟨i, z, ht', _⟩ := tElem_parts ht
            rw [ht] at hx
            simp only [Option.map_eq_some_iff] at hx
            obtain ⟨n, hn', hx⟩ := hx
            cases hx
            obtain ⟨a', c, rfl⟩ := alen_rel hn' hr.1
            exact ⟨_, G, w, by simp [builtin, Builtin.len_, run_underlying ht', goInt], .refl G, H, rel_val⟩
  · -- append
    rename_i t t' s x
    split at hx
    case isFalse => cases hx
    rename_i e
    subst e
    rw [Option.map_eq_some_iff] at hx
    obtain ⟨⟨rd', wr', v'⟩, ha, hx⟩ := hx
    cases hx
    match vs, hr with
    | [ys, yx], hr =>
      simp only [RelL] at hr
      obtain ⟨_, u, G', w', h1, h2, h3, h4⟩ := aapp_rel (ty := ty) H (fun p hp e => hn p hp e) ha hr.1 hr.2.1
      exact ⟨u, G', w', by simp [builtin, h1], h2, h3, h4⟩
    | [], hr => simp [RelL] at hr
    | [_], hr => simp [RelL] at hr
    | _ :: _ :: _ :: _, hr => simp [RelL] at hr
  · -- max
    rename_i x y
    match vs, hr with
    | [a, b], hr =>
      simp only [RelL] at hr
      split at hx
      · rename_i k a1 k' b1 h1 h2
        split at hx
        · rename_i e
          subst e
          cases hx
          have e1 := AV.val_rel h1 hr.1
          have e2 := AV.val_rel h2 hr.2.1
          subst e1 e2
          exact ⟨_, G, w, by simp [builtin, run_max_int2], .refl G, H, rel_val⟩
        · cases hx
      · cases hx
    | [], hr => simp [RelL] at hr
    | [_], hr => simp [RelL] at hr
    | _ :: _ :: _ :: _, hr => simp [RelL] at hr
  · -- min
    rename_i x y
    match vs, hr with
    | [a, b], hr =>
      simp only [RelL] at hr
      split at hx
      · rename_i k a1 k' b1 h1 h2
        split at hx
        · rename_i e
          subst e
          cases hx
          have e1 := AV.val_rel h1 hr.1
          have e2 := AV.val_rel h2 hr.2.1
          subst e1 e2
          exact ⟨_, G, w, by simp [builtin, run_min_int2], .refl G, H, rel_val⟩
        · cases hx
      · cases hx
    | [], hr => simp [RelL] at hr
    | [_], hr => simp [RelL] at hr
    | _ :: _ :: _ :: _, hr => simp [RelL] at hr
  · cases hx

theorem tZero_run {P : Program} {e : TypeId} {zs : List Value} (h : tZero P e = some zs) (w : World) : ∃ z, (zeroValue e).run P w = .ok z w ∧ z.cells.toList = zs := by
  unfold tZero at h
  cases hi : P.info? e with
  | none => simp [hi] at h
  | some i =>
    cases hz : i.zero with
    | none => simp [hi, hz] at h
    | some z => simp [hi, hz] at h; exact ⟨z, by simp [zeroValue, typeInfo, hi, hz], h⟩

theorem tKind_run {P : Program} {t : TypeId} {k : IntKind} (h : tKind P t = some k) : P.underlying t = some (.int k) := by
  unfold tKind at h
  cases hd : P.underlying t with
  | none => simp [hd] at h
  | some d => cases d <;> simp [hd] at h; subst h; rfl

theorem mapSome {ev : Operand → AV} {G : Gh} {f : Operand → Value} (he : ∀ x, Rel G (ev x) (f x)) (x : Option Operand) : (∀ p q, x.map ev = some p → x.map f = some q → Rel G p q) ∧ (x.map ev).isSome = (x.map f).isSome := by
  cases x with
  | none => simp
  | some x => simp only [Option.map_some, Option.isSome_some, and_true]; intro p q h1 h2; cases h1; cases h2; exact he x

theorem tBytes_parts {P : Program} {t : TypeId} (h : tBytes P t = true) : ∃ e, P.underlying t = some (.slice e) ∧ ∀ w : World, (underlying e).run P w = .ok (.int .u8) w := by
  unfold tBytes at h
  split at h
  · rename_i e by_ zs ht
    obtain ⟨i, z, h1, _⟩ := tElem_parts ht
    split at h
    · rename_i hu
      exact ⟨e, h1, fun w => run_underlying hu w⟩
    · cases h
  · cases h

theorem abytes_fold {G : Gh} : ∀ {es : List (List AV)} {vs : List Value}, es.all (fun c => match c with | [.p (.v (.int .u8 _))] => true | _ => false) = true → RelL G es.flatten vs →
    ∃ ns : List Int, vs = ns.map (Value.int .u8) ∧ ∀ r : ByteArray, ns.foldl (fun r n => r.push (UInt8.ofNat n.toNat)) r = es.foldl (fun r c => match c with | [.p (.v (.int .u8 n))] => r.push (UInt8.ofNat n.toNat) | _ => r) r
  | [], [], _, _ => ⟨[], rfl, fun _ => rfl⟩
  | [], _ :: _, _, h => by simp [RelL] at h
  | e :: es, vs, h, r => by
    simp only [List.all_cons, Bool.and_eq_true] at h
    obtain ⟨h1, h2⟩ := h
    split at h1
    · rename_i n
      cases vs with
      | nil => simp [RelL] at r
      | cons v vs =>
        simp only [List.flatten_cons, List.cons_append, List.nil_append, RelL, Rel, PRel] at r
        obtain ⟨rfl, r⟩ := r
        obtain ⟨ns, q1, q2⟩ := abytes_fold h2 r
        exact ⟨n :: ns, by simp [q1], fun b => by simp only [List.foldl_cons]; exact q2 _⟩
    · cases h1
theorem abytes_vals {G : Gh} {es : List (List AV)} {vs : List Value} {b : ByteArray} (h : abytes es = some b) (r : RelL G es.flatten vs) :
    ∃ ns : List Int, vs = ns.map (Value.int .u8) ∧ ns.foldl (fun r n => r.push (UInt8.ofNat n.toNat)) ByteArray.empty = b := by
  unfold abytes at h
  split at h
  · rename_i hc
    cases h
    obtain ⟨ns, q1, q2⟩ := abytes_fold hc r
    exact ⟨ns, q1, q2 _⟩
  · cases h

theorem aexec_run {P : Program} {o : Oper} {a : Act} {w : World} {G : Gh} {h : AHeap} {nm : Nat} {ev : Operand → AV} {rd wr : List (Nat × Blk)} {v : AV} (H : HRel G h w) (hn0 : ∀ p ∈ wr, p.1 = nm → h nm = none) (he : ∀ x, Rel G (ev x) (a.eval x))
    (hx : aexec P o.op ev h nm = some (rd, wr, v)) : OpRun P o a w G h wr v := by
  obtain ⟨dst, op, type, pos, after, guard⟩ := o
  simp only at hx
  cases op with
  | move x => simp only [aexec] at hx; cases hx; exact .pure H (by simp [execOp]) (he x)
  | assign x => simp only [aexec] at hx; cases hx; exact .pure H (by simp [execOp]) (he x)
  | pick c p q =>
    simp only [aexec] at hx
    split at hx
    · rename_i t ht
      cases hx
      have := AV.val_rel ht (he c)
      refine .pure (u := if t then a.eval p else a.eval q) H (by simp [execOp, this, asBool]) (by cases t <;> simp <;> exact he _)
    · cases hx
  | alloc e =>
    simp only [aexec] at hx
    split at hx
    · rename_i zs hz
      split at hx
      · rename_i hone
        cases hx
        have hn : h nm = none := hn0 _ (List.mem_singleton.2 rfl) rfl
        obtain ⟨z, hr, hzc⟩ := tZero_run hz w
        have hall : ∀ v ∈ zs, v.oneCell' = true := by simpa using hone
        obtain ⟨G', w', h1, h2, h3, h4⟩ := new_one (P := P) H hn e (cs := pv zs) (u := z) (by rw [hzc]; exact pv_rel zs) (by
          intro c hc; simp only [pv, List.mem_map] at hc; obtain ⟨v, hv, rfl⟩ := hc; exact hall v hv)
        exact ⟨_, G', w', .inl (by simp [execOp, Instr.alloc, hr, h1]), h2, h3, h4⟩
      · cases hx
    · cases hx
  | box e x =>
    simp only [aexec] at hx
    split at hx
    · rename_i hone
      cases hx
      have hn : h nm = none := hn0 _ (List.mem_singleton.2 rfl) rfl
      have hall : ∀ c ∈ cellsOf (ev x), c.one = true := by simpa using hone
      obtain ⟨G', w', h1, h2, h3, h4⟩ := new_one (P := P) H hn e (cellsOf_rel hall (he x)) hall
      exact ⟨_, G', w', .inl (by simp [execOp, Instr.box, h1]), h2, h3, h4⟩
    · cases hx
  | build t parts =>
    simp only [aexec, Option.map_eq_some_iff] at hx
    obtain ⟨v', hb, hx⟩ := hx
    cases hx
    have hp' := relL_parts he parts.toList
    obtain ⟨u, h1, h2⟩ := abuild_rel (w := w) hb hp'.1 hp'.2
    refine .pure H ?_ h2
    have : (parts.map fun (i, x) => (i, a.eval x)) = (parts.toList.map fun p => (p.1, a.eval p.2)).toArray := by
      apply Array.ext'; simp
    simp only [execOp, this, Sem.run_bind, h1, Result.andThen_ok, Sem.run_pure]
  | buildSlice t len parts =>
    simp only [aexec] at hx
    split at hx
    · rename_i e sz by_ zs ht
      split at hx
      · rename_i hc
        obtain ⟨c1, c2, c3, c4⟩ := hc
        split at hx
        · rename_i out ho
          split at hx
          · rename_i hq
            cases hx
            have hn : h nm = none := hn0 _ (List.mem_singleton.2 rfl) rfl
            have hp' := relL_parts he parts.toList
            obtain ⟨f1, f2, f3⟩ := chunks_flat sz len out hq.1
            obtain ⟨u, G', w', h1, h2, h3, h4⟩ := build_slice H hn ht c1 c2 c3 c4 ho f1 f2 f3 hq.2 hp'.1 hp'.2
            have : (parts.map fun (i, x) => (i, a.eval x)) = (parts.toList.map fun p => (p.1, a.eval p.2)).toArray := by
              apply Array.ext'; simp
            exact ⟨u, G', w', .inl (by simp only [execOp, this, Sem.run_bind, h1, Result.andThen_ok, Sem.run_pure]), h2, h3, h4⟩
          · cases hx
        · cases hx
      · cases hx
    · cases hx
  | load t x =>
    simp only [aexec, Option.map_eq_some_iff] at hx
    obtain ⟨v', hl, hx⟩ := hx
    cases hx
    obtain ⟨u, h1, h2⟩ := aload_rel H hl (he x)
    exact .pure H (by simp [execOp, h1]) h2
  | store t x y =>
    simp only [aexec, Option.map_eq_some_iff] at hx
    obtain ⟨⟨id, k, k'⟩, hl, hx⟩ := hx
    cases hx
    obtain ⟨_, w', h1, h2⟩ := astore_rel H hl (he x) (he y)
    exact ⟨undef, G, w', .inr ⟨by simp [execOp, h1], rfl⟩, .refl G, h2, rel_val⟩
  | nilCheck x =>
    simp only [aexec] at hx
    have hr := he x
    split at hx
    · rename_i e; rw [e] at hr; cases hx
      have hr' := hr
      simp only [Rel] at hr
      obtain ⟨g, n, c, sz, h1, h2⟩ := hr
      exact .pure H (by simp [execOp, h2]) hr'
    · rename_i e; rw [e] at hr; cases hx
      have hr' := hr
      simp only [Rel] at hr
      obtain ⟨b, o, h1, h2⟩ := hr
      exact .pure H (by simp [execOp, h1]) hr'
    · rename_i e; rw [e] at hr; cases hx
      have hr' := hr
      simp only [Rel] at hr
      obtain ⟨a1, b1, h1, h2, h3⟩ := hr
      exact .pure H (by simp [execOp, h1]) hr'
    · cases hx
  | binOp o t x y yt =>
    simp only [aexec] at hx
    have key : aeqx P o t (ev x) (ev y) = some (rd, wr, v) → OpRun P ⟨dst, .binOp o t x y yt, type, pos, after, guard⟩ a w G h wr v := by
      intro hx
      obtain ⟨rfl, rfl, r, h1, h2⟩ := aeqx_some hx
      have := aeqv_run (w := w) h1 (he x) (he y) x y
      rcases h2 with ⟨rfl, rfl⟩ | ⟨rfl, rfl⟩
      · refine .pure H ?_ rel_val
        simp only [execOp]
        rw [Sem.run_bind, this.1]; rfl
      · refine .pure H ?_ rel_val
        simp only [execOp]
        rw [Sem.run_bind, this.2]; rfl
    split at hx
    · rename_i p q hp' hq'
      split at hx
      · rename_i u hu
        cases hx
        have e1 := AV.val_rel hp' (he x)
        have e2 := AV.val_rel hq' (he y)
        have := abin_run (P := P) hu t x y w
        refine .pure H ?_ rel_val
        simp only [execOp, e1, e2]
        rw [Sem.run_bind, this]; rfl
      · exact key hx
    · exact key hx
  | unOp o t x =>
    cases o with
    | not =>
      simp only [aexec] at hx
      split at hx
      · rename_i b hb
        cases hx
        have e1 := AV.val_rel hb (he x)
        exact .pure H (by simp [execOp, e1, Op.unary]) rel_val
      · cases hx
    | _ => simp [aexec] at hx
  | convert s d x =>
    simp only [aexec] at hx
    split at hx
    · rename_i k1 k k2 n h1 h2 h3
      cases hx
      have e1 := AV.val_rel h3 (he x)
      refine .pure H ?_ rel_val
      simp [execOp, e1, convert, run_underlying (tKind_run h1), run_underlying (tKind_run h2), Conv.intToInt]
    · split at hx
      · rename_i hc
        split at hx
        · rename_i es hs
          rw [Option.map_eq_some_iff] at hx
          obtain ⟨b, hb, hx⟩ := hx
          cases hx
          obtain ⟨e, u1, u2⟩ := tBytes_parts hc.2
          obtain ⟨_, hsrc⟩ := asrc_rel H hs (he x)
          refine .pure H (u := .string b) ?_ rel_val
          have ud := run_underlying (tStr_run hc.1)
          have us := run_underlying u1
          have key : (convert s d (a.eval x)).run P w = .ok (.string b) w := by
            rcases hsrc with ⟨e1, e2⟩ | ⟨ad, c, news, e1, e2, e3, e4, e5⟩
            · rw [e1]
              subst e2
              simp [abytes] at hb
              subst hb
              simp [convert, us, ud, u2, Conv.bytesToString]
            · rw [e1]
              obtain ⟨ns, n1, n2⟩ := abytes_vals hb e4
              have hl := run_loadCells_list (P := P) w ad news e3
              rw [e2, Nat.mul_one] at hl
              rw [n1] at hl
              have := run_bytesToString w ad es.length c ns (by rw [hl])
              rw [n2] at this
              simp [convert, us, ud, u2, this]
          simp [execOp, key]
        · cases hx
      · cases hx
  | makeFunc f p q =>
    simp only [aexec] at hx
    cases hx
    refine .pure H (u := .func f (p.map a.eval) (q.map a.eval)) (by simp [execOp, Instr.makeFunc]) ?_
    simp only [Rel]
    exact ⟨_, _, rfl, by simpa using relL_map he p.toList, by simpa using relL_map he q.toList⟩
  | makeSlice t l c =>
    simp only [aexec] at hx
    split at hx
    · rename_i e sz by_ zs k1 n k2 m h1 h2 h3
      split at hx
      · rename_i hc
        obtain ⟨c1, c2, c3, c4, c5, rfl⟩ := hc
        cases hx
        have hn : h nm = none := hn0 _ (List.mem_singleton.2 rfl) rfl
        have e1 := AV.val_rel h2 (he l)
        have e2 := AV.val_rel h3 (he c)
        obtain ⟨u, G', w', r1, r2, r3, r4⟩ := make_rel H hn h1 c1 c2 k1 k2 m.toNat c3 c5.lt
        have hm : ((m.toNat : Nat) : Int) = m := by omega
        rw [hm] at r1
        exact ⟨u, G', w', .inl (by simp [execOp, e1, e2, r1]), r2, r3, r4⟩
      · cases hx
    · cases hx
  | slice t x lo hi mx =>
    simp only [aexec] at hx
    split at hx
    · rename_i hmx
      split at hx
      · rw [Option.map_eq_some_iff] at hx
        obtain ⟨v', hs, hx⟩ := hx
        cases hx
        obtain ⟨u, h1, h2⟩ := aslice_rel H hs (he x) (mapSome he lo).1 (mapSome he hi).1 (mapSome he mx).1 (mapSome he lo).2 (mapSome he hi).2 (mapSome he mx).2 (by simpa using hmx)
        exact .pure H (by simp [execOp, h1]) h2
      · split at hx
        · cases hx
        · rename_i hm
          cases mx with
          | some => simp at hm
          | none =>
            rw [Option.map_eq_some_iff] at hx
            obtain ⟨v', hs, hx⟩ := hx
            cases hx
            obtain ⟨u, h1, h2⟩ := aslx_rel (w := w) hs (he x) (mapSome he lo).1 (mapSome he hi).1 (mapSome he lo).2 (mapSome he hi).2
            exact .pure H (by simp [execOp, h1]) h2
    · cases hx
  | index t x i =>
    simp only [aexec] at hx
    split at hx
    · rename_i k n hi
      have ei := AV.val_rel hi (he i)
      split at hx
      · rename_i len sz ag ht
        obtain ⟨e, hu, hag⟩ := tArr_parts ht
        obtain ⟨_, hsz⟩ := run_isAgg hag w
        split at hx
        · rename_i cs hxx
          split at hx
          · rename_i hc
            rw [Option.map_eq_some_iff] at hx
            obtain ⟨v', hp', hx⟩ := hx
            cases hx
            have hr := he x
            rw [hxx] at hr
            simp only [Rel] at hr
            obtain ⟨vs, ex, hr⟩ := hr
            obtain ⟨u, h1, h2⟩ := apart_rel (w := w) hag hp' hr
            refine .pure H ?_ h2
            simp [execOp, ex, ei, Instr.index, asIntOf, run_underlying hu, hc, hsz, h1]
          · cases hx
        · cases hx
      · split at hx
        · rename_i s hs
          split at hx
          · rename_i hc
            rw [Option.map_eq_some_iff] at hx
            obtain ⟨b, hb, hx⟩ := hx
            cases hx
            have ex := AV.val_rel hs (he x)
            refine .pure H ?_ rel_val
            simp [execOp, ex, ei, Instr.index, asIntOf, run_underlying (tStr_run hc.1), hc.2, hb]
          · cases hx
        · cases hx
    · cases hx
  | fieldAddr s x f =>
    simp only [aexec, Option.map_eq_some_iff] at hx
    obtain ⟨v', hf, hx⟩ := hx
    cases hx
    obtain ⟨u, h1, h2⟩ := afld_rel (w := w) hf (he x)
    exact .pure H (by simp [execOp, h1]) h2
  | field s x f =>
    simp only [aexec] at hx
    split at hx
    · rename_i off ag sz cs h1 h2
      rw [Option.map_eq_some_iff] at hx
      obtain ⟨v', hp', hx⟩ := hx
      cases hx
      obtain ⟨fs, fx, hd, hf, rfl, hag⟩ := tField_parts h1
      have hr := he x
      rw [h2] at hr
      simp only [Rel] at hr
      obtain ⟨vs, e1, hr⟩ := hr
      obtain ⟨u, r1, r2⟩ := apart_rel (w := w) hag hp' hr
      exact .pure H (by simp [execOp, e1, Instr.field, run_underlying hd, hf, asAgg, r1]) r2
    · cases hx
  | indexAddr t x i =>
    simp only [aexec] at hx
    split at hx
    · rename_i k n hi
      rw [Option.map_eq_some_iff] at hx
      obtain ⟨v', hp', hx⟩ := hx
      cases hx
      have e1 := AV.val_rel hi (he i)
      obtain ⟨u, r1, r2⟩ := aidx_rel (k := k) H hp' (he x)
      exact .pure H (by simp [execOp, e1, r1]) r2
    · cases hx
  | extract x i =>
    simp only [aexec] at hx
    split at hx
    · rename_i cs h2
      rw [Option.map_eq_some_iff] at hx
      obtain ⟨v', hp', hx⟩ := hx
      cases hx
      have hr := he x
      rw [h2] at hr
      simp only [Rel] at hr
      obtain ⟨vs, e1, hr⟩ := hr
      obtain ⟨u, r1, r2⟩ := RelL.get i v hr hp'
      have : vs[i]? = some u := by simpa using r1
      exact .pure H (by simp [execOp, e1, Instr.extract, this]) r2
    · cases hx
  | call c =>
    obtain ⟨callee, args, argTypes⟩ := c
    cases callee with
    | builtin b =>
      simp only [aexec] at hx
      obtain ⟨u, G', w', h1, h2, h3, h4⟩ := abuiltin_run H hn0 hx (vs := args.toList.map a.eval) (relL_map he _) type (args.map fun | .const _ => true | _ => false)
      refine ⟨u, G', w', .inl ?_, h2, h3, h4⟩
      have e1 : (args.toList.map a.eval).toArray = args.map a.eval := by apply Array.ext'; simp
      have e2 : argTypes.toList.toArray = argTypes := by simp
      rw [e1, e2] at h1
      simp only [execOp, resolve, Sem.run_bind, Sem.run_pure, Result.andThen_ok, invoke]
      exact h1
    | _ => simp [aexec] at hx
  | _ => simp [aexec] at hx

end Go.AM

/- Functions: what a call of one comes to. Regions, one operation after the other. -/
namespace Go.AM
set_option linter.unusedVariables false
set_option linter.unusedSimpArgs false
open Go Go.RowKit
set_option linter.unusedSectionVars false
variable [Glob]

/-- A call with these values over this heap returns a value and leaves a heap of which Q holds. -/
def ACalls (P : Program) (f : FuncId) (args : List AV) (h : AHeap) (Q : AV → AHeap → Prop) : Prop :=
  ∀ G w (vs : List Value), HRel G h w → RelL G args vs → Calls P f vs.toArray w fun e w' => ∃ v G' r h', e = .returned v ∧ G.Le G' ∧ HRel G' h' w' ∧ Rel G' r v ∧ Q r h'

theorem ACalls.mono {P : Program} {f : FuncId} {args : List AV} {h : AHeap} {Q Q' : AV → AHeap → Prop} (H : ACalls P f args h Q) (hq : ∀ r h', Q r h' → Q' r h') : ACalls P f args h Q' :=
  fun G w vs hh hr => (H G w vs hh hr).mono fun _ _ ⟨v, G', r, h', e, l, x, y, q⟩ => ⟨v, G', r, h', e, l, x, y, hq _ _ q⟩

def argSlots : Nat → List AV → Slots
  | _, [] => []
  | i, x :: xs => (i, x) :: argSlots (i + 1) xs

/-- What is read out of the slots at the end. -/
def ares1 (P : Program) (t : Slots) (h : AHeap) : ResultVar → Option AV
  | .tmp i => some (look t i)
  | .cell i ty => aload P h ty (look t i)

def aresL (P : Program) (t : Slots) (h : AHeap) : List ResultVar → Option (List AV)
  | [] => some []
  | x :: r => match ares1 P t h x, aresL P t h r with
    | some v, some vs => some (v :: vs)
    | _, _ => none

def ares (P : Program) (t : Slots) (h : AHeap) (rs : List ResultVar) : Option AV :=
  match aresL P t h rs with
  | some [v] => some v
  | some vs => some (.tup vs)
  | none => none

theorem ares1_run {P : Program} {N : Nat} {G : Gh} {t : Slots} {h : AHeap} {a : Act} {w : World} (st : StRel N G t h a w) {x : ResultVar} {v : AV} (hx : ares1 P t h x = some v) :
    ∃ u, (match x with | .tmp i => pure (a.tmps.getD i undef) | .cell i ty => do loadVar ty (← asAddr (a.tmps.getD i undef)) : Sem Value).run P w = .ok u w ∧ Rel G v u := by
  cases x with
  | tmp i => simp only [ares1] at hx; cases hx; exact ⟨_, rfl, st.slots i⟩
  | cell i ty =>
    simp only [ares1] at hx
    obtain ⟨u, h1, h2⟩ := aload_rel st.heap hx (st.slots i)
    refine ⟨u, ?_, h2⟩
    simp only [Sem.run_bind]
    unfold Instr.loadAt at h1
    generalize a.tmps.getD i undef = y at h1
    cases y with
    | pointer p =>
      cases p with
      | none => simp [Instr.sureAddr] at h1
      | some q => simpa [Instr.sureAddr, asAddr] using h1
    | _ => simp [Instr.sureAddr] at h1

theorem aresL_run {P : Program} {N : Nat} {G : Gh} {t : Slots} {h : AHeap} {a : Act} {w : World} (st : StRel N G t h a w) : ∀ {rs : List ResultVar} {vs : List AV}, aresL P t h rs = some vs →
    ∃ us, (rs.mapM fun x => (match x with | .tmp i => pure (a.tmps.getD i undef) | .cell i ty => do loadVar ty (← asAddr (a.tmps.getD i undef)) : Sem Value)).run P w = .ok us w ∧ RelL G vs us
  | [], vs, hx => by simp only [aresL] at hx; cases hx; exact ⟨[], by simp, by simp [RelL]⟩
  | x :: rs, vs, hx => by
    simp only [aresL] at hx
    cases h1 : ares1 P t h x with
    | none => rw [h1] at hx; simp at hx
    | some v =>
      cases h2 : aresL P t h rs with
      | none => rw [h1, h2] at hx; simp at hx
      | some vs' =>
        rw [h1, h2] at hx
        cases hx
        obtain ⟨u, r1, r2⟩ := ares1_run st h1
        obtain ⟨us, r3, r4⟩ := aresL_run st h2
        refine ⟨u :: us, ?_, by simp only [RelL]; exact ⟨r2, r4⟩⟩
        rw [List.mapM_cons, Sem.run_bind, r1, Result.andThen_ok, Sem.run_bind, r3, Result.andThen_ok]
        rfl

theorem ares_run {P : Program} {N : Nat} {G : Gh} {t : Slots} {h : AHeap} {a : Act} {w : World} {fn : Func} (st : StRel N G t h a w) {v : AV} (hx : ares P t h fn.results.toList = some v) :
    ∃ u, (results fn a.tmps).run P w = .ok u w ∧ Rel G v u := by
  unfold ares at hx
  cases hl : aresL P t h fn.results.toList with
  | none => rw [hl] at hx; simp at hx
  | some vs =>
    obtain ⟨us, r1, r2⟩ := aresL_run st hl
    have hrun : (fn.results.mapM fun x => (match x with | .tmp i => pure (a.tmps.getD i undef) | .cell i ty => do loadVar ty (← asAddr (a.tmps.getD i undef)) : Sem Value)).run P w = .ok us.toArray w := by
      rw [Array.mapM_eq_mapM_toList, Sem.run_map, r1]; rfl
    rw [hl] at hx
    have hlen := r2.length
    have key : (results fn a.tmps).run P w = .ok (if h : us.toArray.size = 1 then us.toArray[0] else .tuple us.toArray) w := by
      unfold results
      rw [Sem.run_bind]
      exact (congrArg (fun z => Result.andThen z (fun (vs : Array Value) w' => Sem.run P (pure (if h : vs.size = 1 then vs[0] else .tuple vs) : Sem Value) w')) hrun).trans rfl
    refine ⟨_, key, ?_⟩
    match vs, us, hx, r2, hlen with
    | [x], [u], hx, r2, _ => simp only at hx; cases hx; simp only [RelL] at r2; simpa using r2.1
    | [], [], hx, r2, _ => simp only at hx; cases hx; simp only [Rel]; exact ⟨#[], by simp, by simp [RelL]⟩
    | x :: y :: vs, u :: v :: us, hx, r2, _ =>
      simp only at hx; cases hx; simp only [Rel]
      exact ⟨(u :: v :: us).toArray, by simp, r2⟩
    | [_], [], _, _, h => simp at h
    | [_], _ :: _ :: _, _, _, h => simp at h
    | [], _ :: _, _, _, h => simp at h
    | _ :: _ :: _, [], _, _, h => simp at h
    | _ :: _ :: _, [_], _, _, h => simp at h

theorem look_args {G : Gh} : ∀ {args : List AV} {vs : List Value} (i : Nat), RelL G args vs → ∀ (T : Array Value) , (∀ (j : Nat) (v : Value), vs[j]? = some v → T.getD (i + j) undef = v) → ∀ k, Rel G (look (argSlots i args) k) (T.getD k undef)
  | [], _, _, _, _, _, _ => by simp [argSlots, look, Rel]
  | a :: as, [], _, h, _, _, _ => by simp [RelL] at h
  | a :: as, v :: vs, i, h, T, hT, k => by
    simp only [RelL] at h
    simp only [argSlots, look]
    split
    · rename_i e; subst e
      rw [show k = k + 0 by omega, hT 0 v rfl]; exact h.1
    · exact look_args (i + 1) h.2 T (fun j u hu => by have := hT (j + 1) u (by simpa using hu); rwa [show i + 1 + j = i + (j + 1) by omega]) k

/-- What a function's body must come to. -/
def aend (P : Program) (F : AHeap) (rs : List ResultVar) (Q : AV → AHeap → Prop) : APost
  | .normal, t, h => ∃ r r' h', ares P t h rs = some r ∧ WeakL F [r] h [r'] h' ∧ Q r' h'
  | .ret, t, h => ∃ r r' h', ares P t h rs = some r ∧ WeakL F [r] h [r'] h' ∧ Q r' h'
  | _, _, _ => False

/-- A mark's block is shut. -/
theorem HRel.shut {G : Gh} {h : AHeap} {w : World} (H : HRel G h w) {b : Nat} (hb : b ∈ G.mks) {ms : List Nat} (hms : ∀ x ∈ ms, x ∈ G.mks ∧ x ≠ b) : HRel { G with mks := ms } h (w.putObj b (.deferred none)) := by
  obtain ⟨m1, m2⟩ := H.mks b hb
  have hlt := (Array.getElem?_eq_some_iff.1 m2).1
  have hg : w.grownBy (w.putObj b (.deferred none)) (some b) := grownBy_putObj' w b _
  have hoth : ∀ k, k ≠ b → (w.putObj b (.deferred none)).heap[k]? = w.heap[k]? := fun k hk => World.putObj_heap_other hk
  refine ⟨H.below.grown hg H.below.size (fun g e => by cases e; exact m1), fun k o v hv => ?_, fun id k hk => ?_, ?_, H.dom, H.top, H.glb, fun x hx => ?_, fun p hp => ?_, fun x hx => H.apt x (hms x hx).1⟩
  · obtain ⟨h1, h2⟩ := H.imm k o v hv
    refine ⟨?_, h2⟩
    have hk : k ≠ b := fun e => by
      subst e
      simp [World.cell?, m2] at h1
    rw [World.cell?_of_block (w := w) (a := ⟨k, o, none⟩) (hoth k hk)]; exact h1
  · have := H.blk id k hk
    cases k with
    | row ver e sz es =>
      obtain ⟨v, xs, a1, a2, a3⟩ := this
      refine ⟨v, xs, a1, a2.kept hg ?_, ?_⟩
      · cases hv : v.ownBlock with
        | none => exact .inl rfl
        | some g => exact .inr fun e => (H.mk_own a2 hv).1 b hb (Option.some.inj e).symm
      · obtain ⟨q1, q2⟩ := a3
        refine ⟨?_, q2⟩
        have hG : ∀ (xs : List AV) (vs : List Value), RelL G xs vs → RelL { G with mks := ms } xs vs := fun xs vs r => RelL.same (G := G) (G' := { G with mks := ms }) rfl rfl r
        exact hG _ _ q1
    | mp ver es =>
      obtain ⟨c, a1, a2, ⟨ents, clock, a3, a4, a5⟩, a6⟩ := this
      refine ⟨c, a1, a2, ⟨ents, clock, ?_, a4, RelL.same (G := G) (G' := { G with mks := ms }) rfl rfl a5⟩, a6⟩
      rw [hoth c fun e => (H.mk_ne a3 rfl).1 b hb e.symm]; exact a3
  · exact H.sep
  · obtain ⟨q1, q2⟩ := H.mks x (hms x hx).1
    exact ⟨q1, by rw [hoth x (hms x hx).2]; exact q2⟩
  · obtain ⟨q1, q2, q3⟩ := H.outs p hp
    exact ⟨q1, by rw [hoth p.1 (H.apt b hb p hp)]; exact q2, q3⟩

theorem StRel.shut {N : Nat} {G : Gh} {t : Slots} {h : AHeap} {tm : Array Value} {w : World} {b : Nat} {bs : List Nat} (st : StRel N G t h { tmps := tm, defers := (b :: bs).map markD } w) (hb : ∀ x ∈ b :: bs, x ∈ G.mks) (hnd : (b :: bs).Nodup) :
    StRel N { G with mks := bs } t h { tmps := tm, defers := bs.map markD } (w.putObj b (.deferred none)) := by
  have hnd' := List.nodup_cons.1 hnd
  refine ⟨st.size, ⟨bs, hnd'.2, fun x hx => hx, rfl⟩, fun i => Rel.same (G := G) (G' := { G with mks := bs }) rfl rfl (st.slots i), st.heap.shut (hb b (by simp)) fun x hx => ⟨hb x (by simp [hx]), fun e => hnd'.1 (e ▸ hx)⟩⟩

theorem acalls_of {P : Program} {f : FuncId} {fn : Func} {c : Code} {args : List AV} {F : AHeap} {Q : AV → AHeap → Prop} {N : Nat} (hf : P.funcs[f]? = some fn) (hb : fn.body = some c) (hN : fn.ntmps = N) (hl : args.length ≤ N)
    (H : AWp P N F c (aend P F fn.results.toList Q) (argSlots 0 args) F) : ACalls P f args F Q := by
  intro G w vs hh hr
  have hlen := hr.length
  let G1 : Gh := { M := G.M, loc := G.loc, w0 := G.w0, mks := [], out := G.mks.map (fun b => (b, .deferred (some []))) ++ G.out }
  have hh1 : HRel G1 F w := by
    refine ⟨hh.below, hh.imm, fun id k hk => ?_, ?_, hh.dom, hh.top, hh.glb, fun x hx => (nomatch (show x ∈ ([] : List Nat) from hx)), fun p hp => ?_, fun x hx => (nomatch (show x ∈ ([] : List Nat) from hx))⟩
    · have := hh.blk id k hk
      cases k with
      | row ver e sz es =>
        obtain ⟨v, xs, a1, a2, a3, a4⟩ := this
        exact ⟨v, xs, a1, a2, RelL.same (G := G) (G' := G1) rfl rfl a3, a4⟩
      | mp ver es =>
        obtain ⟨b, a1, a2, ⟨ents, clock, a3, a4, a5⟩, a6⟩ := this
        exact ⟨b, a1, a2, ⟨ents, clock, a3, a4, RelL.same (G := G) (G' := G1) rfl rfl a5⟩, a6⟩
    · exact hh.sep
    · rcases List.mem_append.1 (show p ∈ G.mks.map (fun b => (b, Obj.deferred (some []))) ++ G.out from hp) with h | h
      · obtain ⟨b, hb, rfl⟩ := List.mem_map.1 h
        exact ⟨(hh.mks b hb).1, (hh.mks b hb).2, rfl⟩
      · exact hh.outs p h
  refine callsIn_wide.1 (callsIn_of_wp_marks (n := 0) (c := c) hf hb trivial (wpIn_wide.2 ?_))
  have st : StRel N G1 (argSlots 0 args) F { tmps := vs.toArray ++ Array.replicate (fn.ntmps - vs.toArray.size) undef, defers := [] } w := by
    refine ⟨by simp; omega, ⟨[], List.nodup_nil, by simp, rfl⟩, ?_, hh1⟩
    refine look_args 0 (RelL.same (G := G) (G' := G1) rfl rfl hr) _ fun j v hv => ?_
    have hj : j < vs.length := (List.getElem?_eq_some_iff.1 hv).1
    rw [Nat.zero_add, Array.getD_eq_getD_getElem?, Array.getElem?_append_left (by simpa using hj)]
    simp [hv]
  refine wp_mono (H G1 G1 _ w ⟨w, hh1⟩ (.refl G1) st) ?_
  intro e a' w' ⟨G', t', h', l, s, q⟩
  -- the end: the marks are shut, the results read
  have fin : ∀ (bs : List Nat) (G' : Gh) (w' : World), G1.Le G' → bs.Nodup → (∀ b ∈ bs, b ∈ G'.mks) → StRel N G' t' h' { tmps := a'.tmps, defers := bs.map markD } w' →
      (∃ r r' h2, ares P t' h' fn.results.toList = some r ∧ WeakL F [r] h' [r'] h2 ∧ Q r' h2) →
      LeavesInM Fence.wide 0 P fn a'.tmps (fun e w' => ∃ v G' r h', e = .returned v ∧ G.Le G' ∧ HRel G' h' w' ∧ Rel G' r v ∧ Q r h') (bs.map markD) .returning w' := by
    intro bs
    induction bs with
    | nil =>
      intro G' w' l _ _ s ⟨r, r', h2, hres, hw, hq⟩
      obtain ⟨u, h3, h4⟩ := ares_run (fn := fn) s hres
      obtain ⟨G2, l2, hh2, hr2, _⟩ := hw G1 G' w' [u] ⟨w, hh1⟩ l s.heap (by simp only [RelL]; exact ⟨h4, trivial⟩)
      simp only [RelL] at hr2
      have hout : G2.out = G.mks.map (fun b => (b, Obj.deferred (some []))) ++ G.out := l2.o
      let G3 : Gh := { M := G2.M, loc := G2.loc, w0 := G2.w0, mks := G.mks, out := G.out }
      refine ⟨u, h3, u, G3, r', h2, rfl, ⟨l2.m, l2.l, l2.w, fun _ h => h, rfl⟩, ?_, Rel.same (G := G2) (G' := G3) rfl rfl hr2.1, hq⟩
      refine ⟨hh2.below, hh2.imm, fun id k hk => ?_, ?_, hh2.dom, hh2.top, hh2.glb, fun b hb => ?_, fun p hp => hh2.outs p (by rw [hout]; exact List.mem_append_right _ hp), hh.apt⟩
      · have := hh2.blk id k hk
        cases k with
        | row ver e sz es =>
          obtain ⟨v, xs, a1, a2, a3, a4⟩ := this
          exact ⟨v, xs, a1, a2, RelL.same (G := G2) (G' := G3) rfl rfl a3, a4⟩
        | mp ver es =>
          obtain ⟨b, a1, a2, ⟨ents, clock, a3, a4, a5⟩, a6⟩ := this
          exact ⟨b, a1, a2, ⟨ents, clock, a3, a4, RelL.same (G := G2) (G' := G3) rfl rfl a5⟩, a6⟩
      · exact hh2.sep
      · obtain ⟨q1, q2, _⟩ := hh2.outs (b, .deferred (some [])) (by rw [hout]; exact List.mem_append_left _ (List.mem_map.2 ⟨b, hb, rfl⟩))
        exact ⟨q1, q2⟩
    | cons b bs ih =>
      intro G' w' l hnd hin s hq
      have hmk := s.heap.mks b (hin b (by simp))
      refine ⟨by simp, .inl ⟨b, w'.putObj b (.deferred none), rfl, run_takeDeferred hmk.2, ?_⟩⟩
      refine ih { G' with mks := bs } _ ⟨l.m, l.l, l.w, (by intro b hb; exact absurd hb (by simp [G1])), l.o⟩ (List.nodup_cons.1 hnd).2 (fun x hx => hx) (s.shut hin hnd) hq
  obtain ⟨bs, hnd, hin, hd⟩ := s.defers
  have s' : StRel N G' t' h' { tmps := a'.tmps, defers := bs.map markD } w' := ⟨s.size, ⟨bs, hnd, hin, rfl⟩, s.slots, s.heap⟩
  cases e with
  | normal => show LeavesInM Fence.wide 0 P fn a'.tmps _ a'.defers .returning w'; rw [hd]; exact fin bs G' w' l hnd hin s' q
  | ret => show LeavesInM Fence.wide 0 P fn a'.tmps _ a'.defers .returning w'; rw [hd]; exact fin bs G' w' l hnd hin s' q
  | exit id => exact q.elim
  | goto l' => exact q.elim
  | panic ch => exact q.elim
  | outgrown => exact q.elim

/-! ### Regions -/

/-- Does the operation come up? -/
def awanted (ops : List Oper) (t : Slots) (o : Oper) : Option Bool :=
  match o.guard with
  | none => some true
  | some (j, want) => match (ops[j]?).bind (·.dst) with
    | some d => match (look t d).val with
      | some (.bool b) => some (b == want)
      | some (.tuple _) => some false
      | _ => none
    | none => none

theorem awanted_run {N : Nat} {G : Gh} {t : Slots} {h : AHeap} {a : Act} {w : World} (st : StRel N G t h a w) {ops : List Oper} {o : Oper} {b : Bool} (hw : awanted ops t o = some b) : Region.wanted o (yielded ops.toArray a.tmps) = b := by
  unfold awanted at hw
  unfold Region.wanted
  cases hg : o.guard with
  | none => rw [hg] at hw; cases hw; rfl
  | some q =>
    obtain ⟨j, want⟩ := q
    rw [hg] at hw
    simp only at hw ⊢
    cases hd : (ops[j]?).bind (·.dst) with
    | none => rw [hd] at hw; cases hw
    | some d =>
      rw [hd] at hw
      simp only at hw
      split at hw
      · rename_i b' hv
        cases hw
        have := AV.val_rel hv (st.slots d)
        have hy : yielded ops.toArray a.tmps j = some b' := by
          unfold yielded
          have e1 : (ops.toArray[j]?).bind (·.dst) = some d := by simpa using hd
          rw [e1]
          simp only [Option.bind_some]
          have hget : a.tmps[d]? = some (.bool b') := by
            rw [Array.getD_eq_getD_getElem?] at this
            cases hq : a.tmps[d]? with
            | none => rw [hq] at this; simp [undef] at this
            | some y => rw [hq] at this; simp at this; rw [this]
          rw [hget]
        rw [hy]
        cases b' <;> cases want <;> rfl
      · rename_i z hv
        cases hw
        have := AV.val_rel hv (st.slots d)
        have hy : yielded ops.toArray a.tmps j = none := by
          unfold yielded
          have e1 : (ops.toArray[j]?).bind (·.dst) = some d := by simpa using hd
          rw [e1]
          simp only [Option.bind_some]
          cases hq : a.tmps[d]? with
          | none => rfl
          | some y =>
            rw [Array.getD_eq_getD_getElem?, hq] at this
            simp only [Option.getD_some] at this
            rw [this]
        rw [hy]
        cases want <;> rfl
      · cases hw

/-- The operations of a region that are left. -/
def ASeq (P : Program) (N : Nat) (h0 : AHeap) (ops : List Oper) (Q : APost) (rest : List Oper) (t : Slots) (h : AHeap) : Prop :=
  ∀ G0 G a w, Anchor G0 h0 → G0.Le G → StRel N G t h a w → wpList P ops.toArray (fun e a' w' => ∃ G' t' h', G0.Le G' ∧ StRel N G' t' h' a' w' ∧ Q e t' h') rest a w

section
variable {P : Program} {N : Nat} {h0 : AHeap} {Q : APost} {t : Slots} {h : AHeap} {ops rest : List Oper} {o : Oper}

theorem awp_region {id : Nat} (H : ASeq P N h0 ops Q ops t h) : AWp P N h0 (.region id ops.toArray false) Q t h :=
  fun G0 G a w ha hl st => wp_region_list (by simpa using H G0 G a w ha hl st)

theorem aseq_nil (H : Q .normal t h) : ASeq P N h0 ops Q [] t h := fun _ G _ _ _ hl st => ⟨G, t, h, hl, st, H⟩

theorem aseq_weak {t' : Slots} {h' : AHeap} (hw : Weak N h0 t h t' h') (H : ASeq P N h0 ops Q rest t' h') : ASeq P N h0 ops Q rest t h :=
  fun G0 G a w ha hl st => let ⟨G', l', st'⟩ := hw G0 G a w ha hl st; H G0 G' a w ha l' st'

theorem aseq_skip (hw : awanted ops t o = some false) (hf : fits N o.dst = true) (H : ASeq P N h0 ops Q rest (aput t o.dst (.p (.v undef))) h) : ASeq P N h0 ops Q (o :: rest) t h := by
  intro G0 G a w ha hl st
  unfold wpList
  rw [if_neg (by rw [awanted_run st hw]; simp)]
  exact H G0 G _ w ha hl (st.put (.refl G) st.heap hf rel_val)

theorem oper_wp_of_run {a : Act} {w : World} {G : Gh} {wr : List (Nat × Blk)} {v : AV} (H : OpRun P o a w G h wr v) {K : Act → World → Prop} {Q' : Exit → Act → World → Prop}
    (hK : ∀ u G' w', G.Le G' → HRel G' (hp h wr) w' → Rel G' v u → K (a.put o.dst u) w') : o.wp P a w K Q' := by
  obtain ⟨u, G', w', hr, h1, h2, h3⟩ := H
  unfold Oper.wp
  rcases hr with hr | ⟨hr, rfl⟩
  · rw [hr]; exact hK u G' w' h1 h2 h3
  · rw [hr]; exact hK undef G' w' h1 h2 h3

theorem aseq_step {rd wr : List (Nat × Blk)} {v : AV} (nm : Nat) (hw : awanted ops t o = some true) (hf : fits N o.dst = true) (hn : h nm = none) (hx : aexec P o.op (aev t) h nm = some (rd, wr, v))
    (H : ASeq P N h0 ops Q rest (aput t o.dst v) (hp h wr)) : ASeq P N h0 ops Q (o :: rest) t h := by
  intro G0 G a w ha hl st
  unfold wpList
  rw [if_pos (awanted_run st hw)]
  exact .inl (oper_wp_of_run (aexec_run st.heap (fun _ _ _ => hn) st.ev hx) fun u G' w' l hh hv => H G0 G' _ w' ha (hl.trans l) (st.put l hh hf hv))

/-- What a call calls. -/
def acallee (t : Slots) (c : Call) : Option (FuncId × List AV) :=
  match c.callee with
  | .value f => match aev t f with
    | .p (.v (.func (.func k) x y)) => some (k, pv x.toList ++ c.args.toList.map (aev t) ++ pv y.toList)
    | .fn (.func k) first cap => some (k, first ++ c.args.toList.map (aev t) ++ cap)
    | _ => none
  | _ => none

def callable (P : Program) (f : FuncId) : Bool :=
  match P.funcs[f]? with
  | some fn => fn.name != "runtime.NumGoroutine" && fn.body.isSome
  | none => false

theorem acallee_run {G : Gh} {a : Act} {w : World} (he : ∀ x, Rel G (aev t x) (a.eval x)) {c : Call} (hc : o.op = .call c) {f : FuncId} {args : List AV} (hx : acallee t c = some (f, args)) (hp' : callable P f = true) :
    ∃ vs : List Value, (execOp a.eval o).run P w = .ok (.enter f vs.toArray) w ∧ RelL G args vs := by
  unfold callable at hp'
  cases hfn : P.funcs[f]? with
  | none => simp [hfn] at hp'
  | some fn =>
    simp only [hfn, Bool.and_eq_true, bne_iff_ne, ne_eq] at hp'
    have hcall : ∀ (vs : Array Value), (callFunc f vs).run P w = .ok (.enter f vs) w := by
      intro vs
      have hb : ¬ (fn.body.isNone = true) := by cases hb : fn.body <;> simp [hb] at hp' ⊢
      have hb2 : fn.body ≠ none := by simpa using hb
      simp [callFunc, hfn, hp'.1, hb2]
    unfold acallee at hx
    obtain ⟨callee, cargs, at_⟩ := c
    cases callee with
    | value g =>
      simp only at hx
      have hg := he g
      split at hx
      · rename_i k v1 v2 e1
        cases hx
        rw [e1] at hg
        simp only [Rel, PRel] at hg
        refine ⟨v1.toList ++ cargs.toList.map a.eval ++ v2.toList, ?_, RelL.append (RelL.append (pv_rel _) (relL_map he _)) (pv_rel _)⟩
        have e2 : (v1.toList ++ cargs.toList.map a.eval ++ v2.toList).toArray = v1 ++ cargs.map a.eval ++ v2 := by apply Array.ext'; simp
        rw [e2]
        simp only [execOp, hc, resolve, hg, Deferred.ofValue, Sem.run_bind, Sem.run_pure, Result.andThen_ok, invoke, hcall]
      · rename_i k first cap e1
        cases hx
        rw [e1] at hg
        simp only [Rel] at hg
        obtain ⟨v1, v2, hg, r1, r2⟩ := hg
        refine ⟨v1.toList ++ cargs.toList.map a.eval ++ v2.toList, ?_, RelL.append (RelL.append r1 (relL_map he _)) r2⟩
        have e2 : (v1.toList ++ cargs.toList.map a.eval ++ v2.toList).toArray = v1 ++ cargs.map a.eval ++ v2 := by apply Array.ext'; simp
        rw [e2]
        simp only [execOp, hc, resolve, hg, Deferred.ofValue, Sem.run_bind, Sem.run_pure, Result.andThen_ok, invoke, hcall]
      · cases hx
    | _ => simp at hx

theorem aseq_call {c : Call} {f : FuncId} {args : List AV} {R : AV → AHeap → Prop} (hc : o.op = .call c) (hw : awanted ops t o = some true) (hf : fits N o.dst = true) (hx : acallee t c = some (f, args)) (hp' : callable P f = true)
    (HC : ACalls P f args h R) (H : ∀ r h', R r h' → ASeq P N h0 ops Q rest (aput t o.dst r) h') : ASeq P N h0 ops Q (o :: rest) t h := by
  intro G0 G a w ha hl st
  unfold wpList
  rw [if_pos (awanted_run st hw)]
  refine .inl ?_
  obtain ⟨vs, hr, hrel⟩ := acallee_run (P := P) (w := w) st.ev hc hx hp'
  unfold Oper.wp
  rw [hr]
  show Calls P f vs.toArray w _
  refine (HC G w vs st.heap hrel).mono ?_
  rintro e w' ⟨v, G', r, h', rfl, l, hh, hv, hq⟩
  exact H r h' hq G0 G' _ w' ha (hl.trans l) (st.put l hh hf hv)

end
end Go.AM

/- The walk as a statement that is computed: what is left are loops, calls and regions that draw their order. -/
namespace Go.AM
set_option linter.unusedVariables false
set_option linter.unusedSimpArgs false
open Go Go.RowKit
set_option linter.unusedSectionVars false
variable [Glob]

abbrev Locs := List (Nat × Blk)
abbrev SPost := Exit → Slots → Locs → Nat → Prop

/-- From n on no block has a name. -/
def Fresh (F : AHeap) (L : Locs) (n : Nat) : Prop := ∀ k, n ≤ k → hp F L k = none

def conc (F : AHeap) (Q : SPost) : APost := fun e t h => ∃ L n, h = hp F L ∧ Fresh F L n ∧ Q e t L n

/-- The weakest condition, over the heap F and the blocks L before it. -/
def SW (P : Program) (N : Nat) (F : AHeap) (c : Code) (Q : SPost) (t : Slots) (L : Locs) (n : Nat) : Prop :=
  Fresh F L n → AWp P N F c (conc F Q) t (hp F L)

def sthen (next : Slots → Locs → Nat → Prop) (Q : SPost) : SPost
  | .normal, t, L, n => next t L n
  | e, t, L, n => Q e t L n

def sblock (id : Nat) (Q : SPost) : SPost
  | .exit id', t, L, n => if id' = id then Q .normal t L n else Q (.exit id') t L n
  | e, t, L, n => Q e t L n

section
variable {P : Program} {N : Nat} {F : AHeap} {Q : SPost} {t : Slots} {L : Locs} {n : Nat}

theorem sw_mono {c : Code} {Q' : SPost} (H : SW P N F c Q t L n) (hq : ∀ e t L n, Q e t L n → Q' e t L n) : SW P N F c Q' t L n :=
  fun hf => awp_mono (H hf) fun _ _ _ ⟨L', n', e1, e2, q⟩ => ⟨L', n', e1, e2, hq _ _ _ _ q⟩

theorem sw_skip (H : Q .normal t L n) : SW P N F .skip Q t L n := fun hf => awp_skip ⟨L, n, rfl, hf, H⟩
theorem sw_label {l : Nat} (H : Q .normal t L n) : SW P N F (.label l) Q t L n := fun hf => awp_label ⟨L, n, rfl, hf, H⟩
theorem sw_exit {id : Nat} (H : Q (.exit id) t L n) : SW P N F (.exit id) Q t L n := fun hf => awp_exit ⟨L, n, rfl, hf, H⟩
theorem sw_ret (H : Q .ret t L n) : SW P N F .ret Q t L n := fun hf => awp_ret ⟨L, n, rfl, hf, H⟩

theorem sw_seq {x y : Code} (H : SW P N F x (sthen (SW P N F y Q) Q) t L n) : SW P N F (.seq x y) Q t L n := by
  intro hf
  refine awp_seq (awp_mono (H hf) ?_)
  intro e t' h' ⟨L', n', e1, e2, q⟩
  cases e with
  | normal => subst e1; exact q e2
  | _ => exact ⟨L', n', e1, e2, q⟩

theorem sw_cond {c : Operand} {x y : Code} (b : Bool) (hc : (aev t c).val = some (.bool b)) (H1 : b = true → SW P N F x Q t L n) (H2 : b = false → SW P N F y Q t L n) : SW P N F (.cond c x y) Q t L n := by
  intro hf
  have hc' : aev t c = .p (.v (.bool b)) := by
    generalize aev t c = z at hc
    cases z with
    | p z => cases z with
      | v z => simp only [AV.val] at hc; cases hc; rfl
      | sl => simp [AV.val] at hc
    | _ => simp [AV.val] at hc
  exact awp_cond b hc' (fun e => H1 e hf) (fun e => H2 e hf)

theorem sw_block {id : Nat} {c : Code} (H : SW P N F c (sblock id Q) t L n) : SW P N F (.block id c) Q t L n := by
  intro hf
  refine awp_block (awp_mono (H hf) ?_)
  intro e t' h' ⟨L', n', e1, e2, q⟩
  cases e with
  | exit id' =>
    simp only [sblock] at q
    simp only [ablock]
    split at q
    · rename_i e; rw [if_pos e]; exact ⟨L', n', e1, e2, q⟩
    · rename_i e; rw [if_neg e]; exact ⟨L', n', e1, e2, q⟩
  | _ => exact ⟨L', n', e1, e2, q⟩

/-- A loop over a family of states. -/
theorem sw_loop {c : Code} {α : Type} (T : α → Slots) (H : α → Locs) (k : α → Nat) (μ : α → Nat) (x0 : α) (start : Fresh F L n → Weak N F t (hp F L) (T x0) (hp F (H x0))) (hfr : ∀ x, Fresh F (H x) (k x))
    (round : ∀ x, SW P N F c (sthen (fun t' L' n' => ∃ y, Weak N F t' (hp F L') (T y) (hp F (H y)) ∧ μ y < μ x) Q) (T x) (H x) (k x)) : SW P N F (.loop c) Q t L n := by
  intro hf
  refine awp_loop T (fun x => hp F (H x)) μ x0 (start hf) fun x => ?_
  refine awp_mono (round x (hfr x)) ?_
  intro e t' h' ⟨L', n', e1, e2, q⟩
  cases e with
  | normal => subst e1; exact q
  | _ => exact ⟨L', n', e1, e2, q⟩

/-! ### Regions -/

/-- The operations of a region that are left. -/
def SS (P : Program) (N : Nat) (F : AHeap) (ops : List Oper) (Q : SPost) (rest : List Oper) (t : Slots) (L : Locs) (n : Nat) : Prop :=
  Fresh F L n → ASeq P N F ops (conc F Q) rest t (hp F L)

theorem sw_region {id : Nat} {ops : Array Oper} (H : SS P N F ops.toList Q ops.toList t L n) : SW P N F (.region id ops false) Q t L n :=
  fun hf => by have := awp_region (id := id) (H hf); rwa [show ops.toList.toArray = ops from rfl] at this

theorem ss_nil {ops : List Oper} (H : Q .normal t L n) : SS P N F ops Q [] t L n := fun hf => aseq_nil ⟨L, n, rfl, hf, H⟩

def makes : Op → Bool
  | .alloc _ | .box .. | .buildSlice .. | .makeSlice .. => true
  | .call { callee := .builtin .append, .. } => true
  | _ => false

theorem aapp_wr {h : AHeap} {nm : Nat} {ty : TypeId} {s x v : AV} {rd wr : Locs} (ha : aapp P h nm ty s x = some (rd, wr, v)) : ∀ p ∈ wr, p.1 = nm ∨ h p.1 ≠ none := by
  unfold aapp at ha
  split at ha
  · split at ha
    · split at ha
      · split at ha
        · split at ha
          · cases ha; simp
          · cases ha
        · split at ha
          · rename_i hk
            split at ha
            · cases ha; simp [hk]
            · cases ha
          · cases ha
        · cases ha
      · cases ha
    · cases ha
  · cases ha

theorem aexec_wr {op : Op} {ev : Operand → AV} {h : AHeap} {nm : Nat} {rd wr : Locs} {v : AV} (hx : aexec P op ev h nm = some (rd, wr, v)) : ∀ p ∈ wr, (makes op = true ∧ p.1 = nm) ∨ h p.1 ≠ none := by
  cases op with
  | alloc e => simp only [aexec] at hx; (repeat' split at hx) <;> first | (cases hx; simp [makes]; done) | cases hx
  | box e x => simp only [aexec] at hx; (repeat' split at hx) <;> first | (cases hx; simp [makes]; done) | cases hx
  | buildSlice => simp only [aexec] at hx; (repeat' split at hx) <;> first | (cases hx; simp [makes]; done) | cases hx
  | makeSlice => simp only [aexec] at hx; (repeat' split at hx) <;> first | (cases hx; simp [makes]; done) | cases hx
  | store ty x y =>
    simp only [aexec, Option.map_eq_some_iff] at hx
    obtain ⟨⟨id, k, k'⟩, hl, hx⟩ := hx
    cases hx
    intro p hp
    simp at hp
    subst hp
    right
    unfold astore at hl
    (repeat' split at hl) <;> first | (cases hl; done) | skip
    rename_i hk _ _ _ _ _
    cases hl
    simp_all
  | call c =>
    obtain ⟨callee, args, ats⟩ := c
    cases callee with
    | builtin b =>
      simp only [aexec] at hx
      unfold abuiltin at hx
      split at hx
      · (repeat' split at hx) <;> first | (cases hx; done) | (cases hx; simp; done) | (rw [Option.map_eq_some_iff] at hx; obtain ⟨n, _, hx⟩ := hx; cases hx; simp)
      · split at hx
        · rw [Option.map_eq_some_iff] at hx
          obtain ⟨⟨rd', wr', v'⟩, ha, hx⟩ := hx
          cases hx
          intro p hp
          rcases aapp_wr ha p hp with h | h
          · exact .inl ⟨rfl, h⟩
          · exact .inr h
        · cases hx
      · (repeat' split at hx) <;> first | (cases hx; done) | (cases hx; simp; done)
      · (repeat' split at hx) <;> first | (cases hx; done) | (cases hx; simp; done)
      · cases hx
    | _ => simp [aexec] at hx
  | unOp o t x => cases o <;> simp only [aexec] at hx <;> first | (cases hx; done) | ((repeat' split at hx) <;> first | (cases hx; done) | (cases hx; simp; done))
  | _ =>
    simp only [aexec] at hx
    (repeat' split at hx) <;> first
      | (cases hx; done)
      | (cases hx; simp; done)
      | (obtain ⟨rfl, rfl, _⟩ := aeqx_some hx; simp; done)
      | (rw [Option.map_eq_some_iff] at hx; obtain ⟨_, _, hx⟩ := hx; cases hx; simp; done)

theorem fresh_step {op : Op} {ev : Operand → AV} {rd wr : Locs} {v : AV} (hf : Fresh F L n) (hx : aexec P op ev (hp F L) n = some (rd, wr, v)) : Fresh F (wr ++ L) (if makes op then n + 1 else n) := by
  intro k hk
  rw [← hp_append, hp_ne]
  · exact hf k (by split at hk <;> omega)
  · intro p hp e
    rcases aexec_wr hx p hp with ⟨h1, h2⟩ | h
    · rw [h1] at hk; simp at hk; omega
    · rw [e] at h; exact h (hf k (by split at hk <;> omega))

/-- The walk of one operation that is no call. -/
def sstep (P : Program) (N : Nat) (F : AHeap) (ops : List Oper) (o : Oper) (K : Slots → Locs → Nat → Prop) (t : Slots) (L : Locs) (n : Nat) : Prop :=
  fits N o.dst = true ∧ match awanted ops t o with
    | some b => (b = true → match aexec P o.op (aev t) (hp F L) n with
        | some r => K (aput t o.dst r.2.2) (r.2.1 ++ L) (if makes o.op then n + 1 else n)
        | none => False) ∧ (b = false → K (aput t o.dst (.p (.v undef))) L n)
    | none => False

theorem ss_step {ops rest : List Oper} {o : Oper} (H : sstep P N F ops o (SS P N F ops Q rest) t L n) : SS P N F ops Q (o :: rest) t L n := by
  intro hf
  obtain ⟨h1, h2⟩ := H
  cases hw : awanted ops t o with
  | none => rw [hw] at h2; exact h2.elim
  | some b =>
    rw [hw] at h2
    cases b with
    | true =>
      have h3 := h2.1 rfl
      cases hx : aexec P o.op (aev t) (hp F L) n with
      | none => rw [hx] at h3; exact h3.elim
      | some r =>
        obtain ⟨rd, wr, v⟩ := r
        rw [hx] at h3
        refine aseq_step n hw h1 (hf n (Nat.le_refl _)) hx ?_
        rw [hp_append]
        exact h3 (fresh_step hf hx)
    | false => exact aseq_skip hw h1 (h2.2 rfl hf)

/-- A call whose contract leaves the heap as it was. -/
theorem ss_call {ops rest : List Oper} {o : Oper} {c : Call} {f : FuncId} {args : List AV} {R : AV → Prop} (hc : o.op = .call c) (hg : o.guard = none) (hf : fits N o.dst = true) (hx : acallee t c = some (f, args)) (hp' : callable P f = true)
    (HC : Fresh F L n → ACalls P f args (hp F L) (fun r h' => h' = hp F L ∧ R r)) (H : ∀ r, R r → SS P N F ops Q rest (aput t o.dst r) L n) : SS P N F ops Q (o :: rest) t L n :=
  fun hfr => aseq_call hc (by unfold awanted; rw [hg]) hf hx hp' (HC hfr) fun r h' ⟨e, hr⟩ => by rw [e]; exact H r hr hfr

/-- A call that leaves a heap with other blocks before F. -/
theorem ss_call_heap {ops rest : List Oper} {o : Oper} {c : Call} {f : FuncId} {args : List AV} {R : AV → Locs → Nat → Prop} (hc : o.op = .call c) (hg : o.guard = none) (hf : fits N o.dst = true) (hx : acallee t c = some (f, args)) (hp' : callable P f = true)
    (HC : Fresh F L n → ACalls P f args (hp F L) (fun r h' => ∃ L' n', h' = hp F L' ∧ Fresh F L' n' ∧ R r L' n')) (H : ∀ r L' n', R r L' n' → SS P N F ops Q rest (aput t o.dst r) L' n') : SS P N F ops Q (o :: rest) t L n :=
  fun hfr => aseq_call hc (by unfold awanted; rw [hg]) hf hx hp' (HC hfr) fun r h' ⟨L', n', e, hfr', hr⟩ => by rw [e]; exact H r L' n' hr hfr'

/-! ### The end of a function -/

def send (P : Program) (F : AHeap) (rs : List ResultVar) (Q : AV → AHeap → Prop) : SPost
  | .normal, t, L, n => Fresh F L n → ∃ r r' h', ares P t (hp F L) rs = some r ∧ WeakL F [r] (hp F L) [r'] h' ∧ Q r' h'
  | .ret, t, L, n => Fresh F L n → ∃ r r' h', ares P t (hp F L) rs = some r ∧ WeakL F [r] (hp F L) [r'] h' ∧ Q r' h'
  | _, _, _, _ => False

theorem acalls_sw {f : FuncId} {fn : Func} {c : Code} {args : List AV} {R : AV → AHeap → Prop} {N : Nat} (hf : P.funcs[f]? = some fn) (hb : fn.body = some c) (hN : fn.ntmps = N) (hl : args.length ≤ N) (hfr : Fresh F [] n)
    (H : SW P N F c (send P F fn.results.toList R) (argSlots 0 args) [] n) : ACalls P f args F R := by
  refine acalls_of hf hb hN hl (awp_mono (H hfr) ?_)
  intro e t h ⟨L, n, e1, e2, q⟩
  subst e1
  cases e with
  | normal => exact q e2
  | ret => exact q e2
  | exit => exact q.elim
  | goto => exact q.elim
  | panic => exact q.elim
  | outgrown => exact q.elim

/-- The result holds nothing of the call's own: what the call made is dropped. -/
theorem weak_plain {r : AV} (hr : conv (fun id => F id ≠ none) noA r r) (hs : shed F [] L) : WeakL F [r] (hp F L) [r] F := by
  have := weakL_cut (F := F) (L := L) (L' := []) (xs := [r]) (ys := [r]) (by simp only [convL, hp]; exact ⟨hr, trivial⟩) (by simp [keptB]) hs
  exact this

/-- The result is a row of the call's own: it becomes a plain list. -/
theorem weak_frozen {r r' : AV} {id ver sz : Nat} {e : TypeId} {es : List (List PV)} (hk : hp F L id = some (.row ver e sz (pcells es))) (hid : F id = none) (hr : conv (fun i => F i ≠ none) (frzA id ver sz es) r r') (hs : shed F [] L) :
    WeakL F [r] (hp F L) [r'] F := by
  have := weakL_freeze (F := F) (L := L) (L' := []) (xs := [r]) (ys := [r']) hk (by simp only [convL, hp]; exact ⟨hr, trivial⟩) hid (by simp) hs
  exact this

theorem WeakL.trans {h0 h1 h2 h3 : AHeap} {xs ys zs : List AV} (a : WeakL h0 xs h1 ys h2) (b : WeakL h0 ys h2 zs h3) : WeakL h0 xs h1 zs h3 :=
  fun G0 G w vs ha hl hh hr => let ⟨G', l', hh', hr', k'⟩ := a G0 G w vs ha hl hh hr; let ⟨G2, l2, hh2, hr2, k2⟩ := b G0 G' w vs ha l' hh' hr'; ⟨G2, l2, hh2, hr2, fun x hx => k2 x (k' x hx)⟩

end
end Go.AM

/- The walk, computed: the operations of a region in one go. -/
namespace Go.AM
set_option linter.unusedVariables false
set_option linter.unusedSimpArgs false
open Go Go.RowKit
set_option linter.unusedSectionVars false
variable [Glob]

def isCall : Op → Bool
  | .call { callee := .builtin _, .. } => false
  | .call _ => true
  | _ => false

abbrev St := Slots × Locs × Nat

def fin1 (N : Nat) (o : Oper) (t : Slots) (L : Locs) (n : Nat) : Option Bool → Option Eff → Option St
  | some true, some r => if fits N o.dst then some (aput t o.dst r.2.2, r.2.1 ++ L, if makes o.op then n + 1 else n) else none
  | some false, _ => if fits N o.dst then some (aput t o.dst (.p (.v undef)), L, n) else none
  | _, _ => none

def step1 (P : Program) (N : Nat) (F : AHeap) (ops : List Oper) (o : Oper) : Option St → Option St
  | some (t, L, n) => fin1 N o t L n (awanted ops t o) (aexec P o.op (aev t) (hp F L) n)
  | none => none

/-- All of them, one after the other. -/
def runL (P : Program) (N : Nat) (F : AHeap) (ops : List Oper) : List Oper → Option St → Option St
  | [], s => s
  | o :: rest, s => runL P N F ops rest (step1 P N F ops o s)

/-- An equation that simp takes from the left alone. -/
def Is {α : Type} (x y : α) : Prop := x = y
theorem Is.mk {α : Type} (x : α) : Is x x := rfl

section
variable {P : Program} {N : Nat} {F : AHeap} {Q : SPost} {t : Slots} {L : Locs} {n : Nat}

theorem ss_step1 {ops rest : List Oper} {o : Oper} {t' : Slots} {L' : Locs} {n' : Nat} (h : step1 P N F ops o (some (t, L, n)) = some (t', L', n')) (H : SS P N F ops Q rest t' L' n') : SS P N F ops Q (o :: rest) t L n := by
  refine ss_step ?_
  unfold sstep
  simp only [step1] at h
  cases hw : awanted ops t o with
  | none => rw [hw] at h; simp [fin1] at h
  | some b =>
    rw [hw] at h
    cases b with
    | true =>
      cases hx : aexec P o.op (aev t) (hp F L) n with
      | none => rw [hx] at h; simp [fin1] at h
      | some r =>
        rw [hx] at h
        simp only [fin1] at h
        split at h
        · rename_i hf
          cases h
          exact ⟨hf, fun _ => H, fun e => by cases e⟩
        · cases h
    | false =>
      simp only [fin1] at h
      split at h
      · rename_i hf
        cases h
        exact ⟨hf, fun e => (by cases e), fun _ => H⟩
      · cases h

theorem runL_none {ops : List Oper} : ∀ (l : List Oper), runL P N F ops l none = none
  | [] => rfl
  | o :: l => by simp only [runL, step1]; exact runL_none l

theorem ss_runL {ops : List Oper} {r : St} : ∀ {l rest : List Oper} {t : Slots} {L : Locs} {n : Nat}, runL P N F ops l (some (t, L, n)) = some r → SS P N F ops Q rest r.1 r.2.1 r.2.2 → SS P N F ops Q (l ++ rest) t L n
  | [], rest, t, L, n, h, H => by simp only [runL] at h; cases h; exact H
  | o :: l, rest, t, L, n, h, H => by
    simp only [runL] at h
    cases hs : step1 P N F ops o (some (t, L, n)) with
    | none => rw [hs, runL_none] at h; cases h
    | some s =>
      obtain ⟨t1, L1, n1⟩ := s
      rw [hs] at h
      exact ss_step1 hs (ss_runL h H)

/-- A region without a call. -/
theorem sw_run {id : Nat} {ops : List Oper} {t' : Slots} {L' : Locs} {n' : Nat} (h : Is (runL P N F ops ops (some (t, L, n))) (some (t', L', n'))) (H : Q .normal t' L' n') : SW P N F (.region id ops.toArray false) Q t L n :=
  sw_region (by have := ss_runL (Q := Q) (rest := []) h (ss_nil H); simpa using this)

/-- A part of a region. -/
theorem ss_run {ops l rest all : List Oper} {t' : Slots} {L' : Locs} {n' : Nat} (e : all = l ++ rest) (h : Is (runL P N F ops l (some (t, L, n))) (some (t', L', n'))) (H : SS P N F ops Q rest t' L' n') : SS P N F ops Q all t L n := by
  rw [e]; exact ss_runL h H

theorem sw_ss {id : Nat} {ops : List Oper} (H : SS P N F ops Q ops t L n) : SW P N F (.region id ops.toArray false) Q t L n := sw_region (by simpa using H)

theorem sw_seq_k {x y : Code} (H : SW P N F x (sthen (SW P N F y Q) Q) t L n) : SW P N F (.seq x y) Q t L n := sw_seq H

end

section
variable {P : Program} {N : Nat} {F : AHeap} {Q : SPost} {K : Slots → Locs → Nat → Prop} {t : Slots} {L : Locs} {n : Nat} {id id' : Nat}

theorem n_then (H : K t L n) : sthen K Q .normal t L n := H
theorem r_then (H : Q .ret t L n) : sthen K Q .ret t L n := H
theorem e_then (H : Q (.exit id) t L n) : sthen K Q (.exit id) t L n := H
theorem n_block (H : Q .normal t L n) : sblock id Q .normal t L n := H
theorem r_block (H : Q .ret t L n) : sblock id Q .ret t L n := H
theorem e_block (H : Q .normal t L n) : sblock id Q (.exit id) t L n := by simp only [sblock, if_true]; exact H
theorem o_block (h : (id' == id) = false) (H : Q (.exit id') t L n) : sblock id Q (.exit id') t L n := by
  simp only [sblock]; rw [if_neg (by simpa using h)]; exact H

theorem sw_yes {c : Operand} {x y : Code} {q : Prop} [Decidable q] (hc : Is (aev t c).val (some (.bool (decide q)))) (hq : q) (H : SW P N F x Q t L n) : SW P N F (.cond c x y) Q t L n :=
  sw_cond _ hc (fun _ => H) (fun e => by simp [hq] at e)
theorem sw_no {c : Operand} {x y : Code} {q : Prop} [Decidable q] (hc : Is (aev t c).val (some (.bool (decide q)))) (hq : ¬ q) (H : SW P N F y Q t L n) : SW P N F (.cond c x y) Q t L n :=
  sw_cond _ hc (fun e => by simp [hq] at e) (fun _ => H)
theorem sw_if {c : Operand} {x y : Code} {q : Prop} [Decidable q] (hc : Is (aev t c).val (some (.bool (decide q)))) (H1 : q → SW P N F x Q t L n) (H2 : ¬ q → SW P N F y Q t L n) : SW P N F (.cond c x y) Q t L n :=
  sw_cond _ hc (fun e => H1 (by simpa using e)) (fun e => H2 (by simpa using e))
theorem sw_true {c : Operand} {x y : Code} (hc : Is (aev t c).val (some (.bool true))) (H : SW P N F x Q t L n) : SW P N F (.cond c x y) Q t L n :=
  sw_cond _ hc (fun _ => H) (fun e => by cases e)
theorem sw_false {c : Operand} {x y : Code} (hc : Is (aev t c).val (some (.bool false))) (H : SW P N F y Q t L n) : SW P N F (.cond c x y) Q t L n :=
  sw_cond _ hc (fun e => by cases e) (fun _ => H)

/-- The end: the result is read, what the call made is dropped. -/
theorem end_ret {rs : List ResultVar} {R : AV → AHeap → Prop} {r r' : AV} {h' : AHeap} (hr : Is (ares P t (hp F L) rs) (some r)) (hw : Fresh F L n → WeakL F [r] (hp F L) [r'] h') (H : R r' h') : send P F rs R .ret t L n :=
  fun hf => ⟨r, r', h', hr, hw hf, H⟩
theorem end_normal {rs : List ResultVar} {R : AV → AHeap → Prop} {r r' : AV} {h' : AHeap} (hr : Is (ares P t (hp F L) rs) (some r)) (hw : Fresh F L n → WeakL F [r] (hp F L) [r'] h') (H : R r' h') : send P F rs R .normal t L n :=
  fun hf => ⟨r, r', h', hr, hw hf, H⟩
end

@[simp] theorem undef_eq : undef = .tuple #[] := rfl
attribute [simp] runL step1 fin1 isCall aexec awanted fits argSlots look aev aput del cellsOf AV.one Value.oneCell' makes afld aload acells hp AV.val abin aeqx aeqv aeqL aeq1 alen anil aidx aslice abound aint isNil0 apart
  aslx abytes abuild afill splice chunks astore aapp asrc abuiltin ablk ablko pv ares ares1 aresL conv convL convE convB keptB shed convT acallee

end Go.AM

/- A region that draws its order: whatever order the tape picks, the text's order tells what it comes to, if no two operations that are not ordered meet in a slot or a block. -/
namespace Go.AM
set_option linter.unusedVariables false
set_option linter.unusedSimpArgs false
open Go Go.RowKit
set_option linter.unusedSectionVars false
variable [Glob]

structure Ef where
  on : Bool
  rd : Locs
  wr : Locs
  v : AV

/-- What the operation needs and does, wherever it is carried out. -/
def OpLoc (P : Program) (o : Oper) (t : Slots) (e : Ef) : Prop :=
  ∀ (t' : Slots) (h' : AHeap), (∀ x ∈ o.op.operands, aev t' x = aev t x) → (∀ p ∈ e.rd, h' p.1 = some p.2) → (∀ p ∈ e.wr, (∃ q ∈ e.rd, q.1 = p.1) ∨ h' p.1 = none) →
    (∃ m, ∀ k, m ≤ k → h' k = none) → ∀ {G : Gh} {a : Act} {w : World}, HRel G h' w → (∀ x, Rel G (aev t' x) (a.eval x)) → ∀ {K : Act → World → Prop} {Q' : Exit → Act → World → Prop},
      (∀ u G' w', G.Le G' → HRel G' (hp h' e.wr) w' → Rel G' e.v u → K (a.put o.dst u) w') → o.wp P a w K Q'

def EOk (P : Program) (N : Nat) (ops : List Oper) (o : Oper) (e : Ef) (t : Slots) (h : AHeap) : Prop :=
  fits N o.dst = true ∧ awanted ops t o = some e.on ∧ (e.on = false → e.wr = [] ∧ e.v = .p (.v undef)) ∧
    (e.on = true → (∀ p ∈ e.rd, h p.1 = some p.2) ∧ (∀ p ∈ e.wr, (∃ q ∈ e.rd, q.1 = p.1) ∨ h p.1 = none) ∧ OpLoc P o t e)

/-- The text's order. -/
def EChain (P : Program) (N : Nat) (ops : List Oper) : List Oper → List Ef → Slots → AHeap → Prop
  | [], [], _, _ => True
  | o :: os, e :: es, t, h => EOk P N ops o e t h ∧ EChain P N ops os es (aput t o.dst e.v) (hp h e.wr)
  | _, _, _, _ => False

/-- The slots when the operations of S have been carried out. -/
def slotsAt (S : Nat → Bool) : List Oper → List Ef → Nat → Slots → Slots
  | o :: os, e :: es, k, t => slotsAt S os es (k + 1) (if S k then aput t o.dst e.v else t)
  | _, _, _, t => t
def heapAt (S : Nat → Bool) : List Ef → Nat → AHeap → AHeap
  | e :: es, k, h => heapAt S es (k + 1) (if S k then hp h e.wr else h)
  | [], _, h => h

theorem look_aput_ne {t : Slots} {d : Option Tmp} {v : AV} {x : Nat} (h : d ≠ some x) : look (aput t d v) x = look t x := by
  cases d with
  | none => rfl
  | some d => rw [look_aput, if_neg (fun e => h (by rw [e]))]

theorem slotsAt_agree {S S' : Nat → Bool} {x : Nat} : ∀ {os : List Oper} {es : List Ef} {k : Nat} {t t' : Slots}, look t x = look t' x →
    (∀ (j : Nat) (o : Oper), os[j]? = some o → S (k + j) ≠ S' (k + j) → o.dst ≠ some x) → look (slotsAt S os es k t) x = look (slotsAt S' os es k t') x
  | [], _, _, _, _, h, _ => by simpa [slotsAt] using h
  | _ :: _, [], _, _, _, h, _ => by simpa [slotsAt] using h
  | o :: os, e :: es, k, t, t', h, hd => by
    simp only [slotsAt]
    refine slotsAt_agree ?_ fun j o' ho hne => hd (j + 1) o' (by simpa using ho) (by rwa [show k + (j + 1) = k + 1 + j by omega])
    by_cases h1 : S k = true <;> by_cases h2 : S' k = true
    · rw [if_pos h1, if_pos h2]
      cases hdst : o.dst with
      | none => simpa [aput] using h
      | some d => rw [look_aput, look_aput, h]
    · rw [if_pos h1, if_neg h2, look_aput_ne (hd 0 o rfl (by simp [h1, h2]))]; exact h
    · rw [if_neg h1, if_pos h2, look_aput_ne (hd 0 o rfl (by simp [h1, h2]))]; exact h
    · rw [if_neg h1, if_neg h2]; exact h

theorem slotsAt_last {S : Nat → Bool} {x : Nat} : ∀ {os : List Oper} {es : List Ef} {k i : Nat} {t : Slots} {o : Oper} {e : Ef}, os[i]? = some o → es[i]? = some e → S (k + i) = true → o.dst = some x →
    (∀ (j : Nat) (o' : Oper), i < j → os[j]? = some o' → S (k + j) = true → o'.dst ≠ some x) → look (slotsAt S os es k t) x = e.v
  | [], _, _, _, _, _, _, h, _, _, _, _ => by simp at h
  | _ :: _, [], _, _, _, _, _, _, h, _, _, _ => by simp at h
  | o :: os, e :: es, k, 0, t, o', e', ho, he, hS, hd, hl => by
    simp at ho he
    subst ho he
    simp only [slotsAt]
    rw [if_pos (by simpa using hS)]
    have : look (slotsAt S os es (k + 1) (aput t o.dst e.v)) x = look (slotsAt (fun _ => false) os es (k + 1) (aput t o.dst e.v)) x :=
      slotsAt_agree rfl fun j o' ho' hne => by
        refine hl (j + 1) o' (by omega) (by simpa using ho') ?_
        rw [show k + (j + 1) = k + 1 + j by omega]; simpa using hne
    rw [this]
    have none_ : ∀ (os : List Oper) (es : List Ef) (k : Nat) (t : Slots), slotsAt (fun _ => false) os es k t = t := by
      intro os
      induction os with
      | nil => intro es k t; simp [slotsAt]
      | cons o os ih => intro es k t; cases es with
        | nil => simp [slotsAt]
        | cons e es => simp [slotsAt, ih]
    rw [none_, hd, look_aput, if_pos rfl]
  | o :: os, e :: es, k, i + 1, t, o', e', ho, he, hS, hd, hl => by
    simp only [slotsAt]
    exact slotsAt_last (i := i) (by simpa using ho) (by simpa using he) (by rwa [show k + 1 + i = k + (i + 1) by omega]) hd fun j o'' hij ho'' hS' =>
      hl (j + 1) o'' (by omega) (by simpa using ho'') (by rwa [show k + (j + 1) = k + 1 + j by omega])

def wids (e : Ef) : List Nat := e.wr.map (·.1)
def rids (e : Ef) : List Nat := e.rd.map (·.1)

theorem hp_same {h h' : AHeap} {id : Nat} (e : h id = h' id) : ∀ (wr : Locs), hp h wr id = hp h' wr id
  | [] => e
  | (i, k) :: r => by simp only [hp]; split; rfl; exact hp_same e r

theorem heapAt_agree {S S' : Nat → Bool} {id : Nat} : ∀ {es : List Ef} {k : Nat} {h h' : AHeap}, h id = h' id → (∀ (j : Nat) (e : Ef), es[j]? = some e → S (k + j) ≠ S' (k + j) → id ∉ wids e) → heapAt S es k h id = heapAt S' es k h' id
  | [], _, _, _, h, _ => by simpa [heapAt] using h
  | e :: es, k, h, h', hh, hd => by
    simp only [heapAt]
    refine heapAt_agree ?_ fun j e' he hne => hd (j + 1) e' (by simpa using he) (by rwa [show k + (j + 1) = k + 1 + j by omega])
    have ne : id ∉ wids e → ∀ h : AHeap, hp h e.wr id = h id := fun hn h => hp_ne fun p hp e => hn (List.mem_map.2 ⟨p, hp, e⟩)
    by_cases h1 : S k = true <;> by_cases h2 : S' k = true
    · rw [if_pos h1, if_pos h2]; exact hp_same hh _
    · rw [if_pos h1, if_neg h2, ne (hd 0 e rfl (by simp [h1, h2]))]; exact hh
    · rw [if_neg h1, if_pos h2, ne (hd 0 e rfl (by simp [h1, h2]))]; exact hh
    · rw [if_neg h1, if_neg h2]; exact hh

theorem hp_over {h h' : AHeap} {id : Nat} : ∀ {wr : Locs}, id ∈ wr.map (·.1) → hp h wr id = hp h' wr id
  | [], h => by simp at h
  | (i, k) :: r, hm => by
    simp only [hp]
    by_cases e : id = i
    · rw [if_pos e, if_pos e]
    · rw [if_neg e, if_neg e]
      simp only [List.map_cons, List.mem_cons] at hm
      exact hp_over (hm.resolve_left e)

theorem heapAt_last {S : Nat → Bool} {id : Nat} {h2 : AHeap} : ∀ {es : List Ef} {k i : Nat} {h : AHeap} {e : Ef}, es[i]? = some e → S (k + i) = true → id ∈ wids e →
    (∀ (j : Nat) (e' : Ef), i < j → es[j]? = some e' → S (k + j) = true → id ∉ wids e') → heapAt S es k h id = hp h2 e.wr id
  | [], _, _, _, _, h, _, _, _ => by simp at h
  | e :: es, k, 0, h, e', he, hS, hm, hl => by
    simp at he
    subst he
    simp only [heapAt]
    rw [if_pos (by simpa using hS)]
    have : heapAt S es (k + 1) (hp h e.wr) id = heapAt (fun _ => false) es (k + 1) (hp h e.wr) id :=
      heapAt_agree rfl fun j e' he' hne => by
        refine hl (j + 1) e' (by omega) (by simpa using he') ?_
        rw [show k + (j + 1) = k + 1 + j by omega]; simpa using hne
    rw [this]
    have none_ : ∀ (es : List Ef) (k : Nat) (h : AHeap), heapAt (fun _ => false) es k h = h := by
      intro es
      induction es with
      | nil => intro k h; rfl
      | cons e es ih => intro k h; simp [heapAt, ih]
    rw [none_]
    exact hp_over hm
  | e :: es, k, i + 1, h, e', he, hS, hm, hl => by
    simp only [heapAt]
    exact heapAt_last (i := i) (by simpa using he) (by rwa [show k + 1 + i = k + (i + 1) by omega]) hm fun j e'' hij he'' hS' =>
      hl (j + 1) e'' (by omega) (by simpa using he'') (by rwa [show k + (j + 1) = k + 1 + j by omega])

theorem EChain.at {P : Program} {N : Nat} {ops : List Oper} : ∀ {os : List Oper} {es : List Ef} {t : Slots} {h : AHeap} (k : Nat) (i : Nat) {o : Oper}, EChain P N ops os es t h → os[i]? = some o →
    ∃ e, es[i]? = some e ∧ EOk P N ops o e (slotsAt (fun j => decide (j < k + i)) os es k t) (heapAt (fun j => decide (j < k + i)) es k h)
  | [], _, _, _, _, _, _, _, ho => by simp at ho
  | _ :: _, [], _, _, _, _, _, H, _ => by simp [EChain] at H
  | o :: os, e :: es, t, h, k, 0, o', H, ho => by
    simp at ho
    subst ho
    refine ⟨e, rfl, ?_⟩
    have h1 : ∀ (os : List Oper) (es : List Ef) (m : Nat) (t : Slots), k ≤ m → slotsAt (fun j => decide (j < k + 0)) os es m t = t := by
      intro os
      induction os with
      | nil => intro es m t _; simp [slotsAt]
      | cons o os ih => intro es m t hm; cases es with
        | nil => simp [slotsAt]
        | cons e es => simp only [slotsAt]; rw [if_neg (by simp; omega)]; exact ih es (m + 1) t (by omega)
    have h2 : ∀ (es : List Ef) (m : Nat) (h : AHeap), k ≤ m → heapAt (fun j => decide (j < k + 0)) es m h = h := by
      intro es
      induction es with
      | nil => intro m h _; rfl
      | cons e es ih => intro m h hm; simp only [heapAt]; rw [if_neg (by simp; omega)]; exact ih (m + 1) h (by omega)
    rw [h1 _ _ _ _ (Nat.le_refl _), h2 _ _ _ (Nat.le_refl _)]
    exact H.1
  | o :: os, e :: es, t, h, k, i + 1, o', H, ho => by
    obtain ⟨e', he', hE⟩ := EChain.at (k + 1) i H.2 (by simpa using ho)
    refine ⟨e', by simpa using he', ?_⟩
    simp only [slotsAt, heapAt]
    rw [if_pos (by simp), if_pos (by simp)]
    rwa [show k + (i + 1) = k + 1 + i by omega]

theorem EChain.len {P : Program} {N : Nat} {ops : List Oper} : ∀ {os : List Oper} {es : List Ef} {t : Slots} {h : AHeap}, EChain P N ops os es t h → es.length = os.length
  | [], [], _, _, _ => rfl
  | _ :: _, [], _, _, H => by simp [EChain] at H
  | [], _ :: _, _, _, H => by simp [EChain] at H
  | o :: os, e :: es, t, h, H => by simp [EChain.len H.2]

end Go.AM

/- A region that draws its order, the theorem. -/
namespace Go.AM
set_option linter.unusedVariables false
set_option linter.unusedSimpArgs false
open Go Go.RowKit
set_option linter.unusedSectionVars false
variable [Glob]

theorem StRel.same {N : Nat} {G : Gh} {t t' : Slots} {h h' : AHeap} {a : Act} {w : World} (st : StRel N G t h a w) (ht : ∀ i, look t' i = look t i) (hh : ∀ i, h' i = h i) : StRel N G t' h' a w := by
  have e : h' = h := funext hh
  subst e
  exact ⟨st.size, st.defers, fun i => by rw [ht]; exact st.slots i, st.heap⟩

/-- j stands before i in every order. -/
def reachB (ops : List Oper) : Nat → Nat → Nat → Bool
  | 0, _, _ => false
  | fuel + 1, j, i => match ops[i]? with
    | some o => o.after.toList.any fun e => Region.binds .any e && (e.on == j || reachB ops fuel j e.on)
    | none => false

def mayWrite : Op → Bool
  | .store .. => true
  | .mapUpdate .. => true
  | .insert .. => true
  | .makeMap .. => true
  | .call { callee := .builtin .append, .. } => true
  | .call { callee := .builtin .copy, .. } => true
  | .call { callee := .builtin .unsafeString, .. } => true
  | .call { callee := .builtin _, .. } => false
  | .call _ => true
  | op => makes op

def statB (ops : List Oper) : Bool :=
  (ops.zipIdx.all fun (o, i) => o.after.toList.all fun e => !Region.binds .any e || decide (e.on < i)) &&
  (List.range ops.length).all fun j => (List.range j).all fun i => reachB ops ops.length i j || (match ops[i]?, ops[j]? with | some x, some y => x.apart ops.toArray y | _, _ => false)

/-- The pairs that are not ordered and of which one may write. -/
def unord (ops : List Oper) : List (Nat × Nat) :=
  (List.range ops.length).flatMap fun j => (List.range j).filterMap fun i =>
    if reachB ops ops.length i j then none else match ops[i]?, ops[j]? with | some x, some y => if mayWrite x.op || mayWrite y.op then some (i, j) else none | _, _ => none

def EDisj (x y : Ef) : Prop := (∀ id ∈ wids x, id ∉ rids y ∧ id ∉ wids y) ∧ ∀ id ∈ wids y, id ∉ rids x

def disAll (es : List Ef) : List (Nat × Nat) → Prop
  | [] => True
  | p :: r => (match es[p.1]?, es[p.2]? with | some x, some y => EDisj x y | _, _ => True) ∧ disAll es r

def writesOk : List Oper → List Ef → Prop
  | o :: os, e :: es => (mayWrite o.op = false → e.wr = []) ∧ writesOk os es
  | _, _ => True

theorem writesOk_at : ∀ {os : List Oper} {es : List Ef} (i : Nat) {o : Oper} {e : Ef}, writesOk os es → os[i]? = some o → es[i]? = some e → mayWrite o.op = false → e.wr = []
  | [], _, _, _, _, _, h, _, _ => by simp at h
  | _ :: _, [], _, _, _, _, _, h, _ => by simp at h
  | o :: os, e :: es, 0, o', e', H, ho, he, hm => by simp at ho he; subst ho he; exact H.1 hm
  | o :: os, e :: es, i + 1, o', e', H, ho, he, hm => writesOk_at i H.2 (by simpa using ho) (by simpa using he) hm

theorem disAll_mem {es : List Ef} : ∀ {l : List (Nat × Nat)} {p : Nat × Nat}, disAll es l → p ∈ l → ∀ {x y : Ef}, es[p.1]? = some x → es[p.2]? = some y → EDisj x y
  | [], _, _, h, _, _, _, _ => by cases h
  | q :: r, p, H, hp, x, y, hx, hy => by
    cases hp with
    | head => have := H.1; rw [hx, hy] at this; exact this
    | tail _ hp => exact disAll_mem H.2 hp hx hy

def Closed (ops : List Oper) (listed : Array Bool) : Prop := ∀ (i : Nat) (o : Oper), listed.getD i false = true → ops[i]? = some o → ∀ e ∈ o.after, Region.binds .any e = true → listed.getD e.on false = true

theorem reach_listed {ops : List Oper} {listed : Array Bool} (hc : Closed ops listed) : ∀ (fuel j i : Nat) (o : Oper), ops[i]? = some o → (∀ e ∈ o.after, Region.binds .any e = true → listed.getD e.on false = true) → reachB ops fuel j i = true → listed.getD j false = true
  | 0, _, _, _, _, _, h => by simp [reachB] at h
  | fuel + 1, j, i, o, ho, hall, h => by
    simp only [reachB, ho, List.any_eq_true, Bool.and_eq_true, Bool.or_eq_true, beq_iff_eq] at h
    obtain ⟨e, he, hb, h⟩ := h
    have he' : e ∈ o.after := by simpa using he
    rcases h with h | h
    · rw [← h]; exact hall e he' hb
    · cases ho2 : ops[e.on]? with
      | none =>
        cases fuel with
        | zero => simp [reachB] at h
        | succ fuel => simp [reachB, ho2] at h
      | some o2 => exact reach_listed hc fuel j e.on o2 ho2 (hc e.on o2 (hall e he' hb) ho2) h

theorem getD_true {listed : Array Bool} {i : Nat} (h : listed.getD i true = false) : listed.getD i false = false ∧ i < listed.size := by
  rw [Array.getD_eq_getD_getElem?] at h ⊢
  cases hi : listed[i]? with
  | none => rw [hi] at h; simp at h
  | some b =>
    rw [hi] at h
    simp at h
    subst h
    exact ⟨by simp, (Array.getElem?_eq_some_iff.1 hi).1⟩

theorem wpAny_chain {P : Program} {N : Nat} {ops : List Oper} {es : List Ef} {t : Slots} {h : AHeap} (hC : EChain P N ops ops es t h) (hS : statB ops = true) (hW : writesOk ops es) (hD : disAll es (unord ops)) (hB : ∃ m, ∀ k, m ≤ k → h k = none ∧ ∀ e ∈ es, k ∉ wids e) {G0 : Gh} {Q : Exit → Act → World → Prop}
    (hQ : ∀ G a w, G0.Le G → StRel N G (slotsAt (fun _ => true) ops es 0 t) (heapAt (fun _ => true) es 0 h) a w → Q .normal a w) :
    ∀ (fuel : Nat) (listed : Array Bool) (a : Act) (w : World) (G : Gh), listed.size = ops.length → Closed ops listed → listed.toList.countP (fun b => !b) = fuel → G0.Le G →
      StRel N G (slotsAt (fun j => listed.getD j false) ops es 0 t) (heapAt (fun j => listed.getD j false) es 0 h) a w → wpAny P .any ops.toArray Q fuel listed a w := by
  have hel := hC.len
  simp only [statB, Bool.and_eq_true, List.all_eq_true, List.mem_range, Bool.or_eq_true] at hS
  obtain ⟨hlt, hap⟩ := hS
  have hon : ∀ (i : Nat) (o : Oper), ops[i]? = some o → ∀ e ∈ o.after, Region.binds .any e = true → e.on < i := by
    intro i o ho e he hb
    have := hlt (o, i) (by rw [List.mem_zipIdx_iff_getElem?]; exact ho) e (by simpa using he)
    simpa [hb] using this
  -- all have been carried out
  have hfin : ∀ (listed : Array Bool) (a : Act) (w : World) (G : Gh), listed.size = ops.length → (∀ i, i < ops.length → listed.getD i false = true) → G0.Le G →
      StRel N G (slotsAt (fun j => listed.getD j false) ops es 0 t) (heapAt (fun j => listed.getD j false) es 0 h) a w → Q .normal a w := by
    intro listed a w G hsz hall hle st
    refine hQ G a w hle (st.same (fun i => ?_) fun id => ?_)
    · refine slotsAt_agree rfl fun j o ho hne => ?_
      have := hall j (List.getElem?_eq_some_iff.1 ho).1
      simp [this] at hne
    · refine heapAt_agree rfl fun j e he hne => ?_
      have := hall j (by rw [← hel]; exact (List.getElem?_eq_some_iff.1 he).1)
      simp [this] at hne
  -- where none is ready, none is left
  have hready : ∀ (listed : Array Bool), listed.size = ops.length → Region.ready .any ops.toArray listed = [] → ∀ i, i < ops.length → listed.getD i false = true := by
    intro listed hsz hr i
    induction i using Nat.strongRecOn with
    | _ i ih =>
      intro hi
      by_cases hl : listed.getD i false = true
      · exact hl
      · exfalso
        have hlf : listed.getD i true = false := by
          have hi' : i < listed.size := by rw [hsz]; exact hi
          rw [Array.getD_eq_getD_getElem?, Array.getElem?_eq_getElem hi'] at hl ⊢
          simpa using hl
        have hmem : i ∈ Region.ready .any ops.toArray listed := by
          refine mem_ready.2 ⟨hlf, ops[i], by simp [hi], fun e he hb => ?_⟩
          have ho : ops[i]? = some ops[i] := List.getElem?_eq_getElem hi
          have h1 := hon i _ ho e he hb
          exact ih e.on h1 (by omega)
        rw [hr] at hmem
        cases hmem
  intro fuel
  induction fuel with
  | zero =>
    intro listed a w G hsz hcl hcnt hle st
    have hall : ∀ i, i < ops.length → listed.getD i false = true := by
      intro i hi
      have hi' : i < listed.size := by rw [hsz]; exact hi
      have h0 := List.countP_eq_zero.1 hcnt (listed[i]) (by simp)
      rw [Array.getD_eq_getD_getElem?, Array.getElem?_eq_getElem hi']
      simpa using h0
    refine ⟨?_, hfin listed a w G hsz hall hle st⟩
    rw [List.eq_nil_iff_forall_not_mem]
    intro i hi
    obtain ⟨h1, o, ho, _⟩ := mem_ready.1 hi
    have h2 := hall i (by simpa using (Array.getElem?_eq_some_iff.1 ho).1)
    have := (getD_true h1).1
    rw [h2] at this
    cases this
  | succ fuel ih =>
    intro listed a w G hsz hcl hcnt hle st
    refine ⟨fun hr => hfin listed a w G hsz (hready listed hsz hr) hle st, fun i hi => ?_⟩
    obtain ⟨hun, o, ho', hprev⟩ := mem_ready.1 hi
    obtain ⟨hunf, hisz⟩ := getD_true hun
    have ho : ops[i]? = some o := by simpa using ho'
    have him : i < ops.length := by rw [← hsz]; exact hisz
    obtain ⟨e, he, hE⟩ := hC.at 0 i ho
    rw [Nat.zero_add] at hE
    -- an operation of which the set differs from the text's beginning is not ordered against this one
    have hun2 : ∀ (j : Nat) (oj : Oper), ops[j]? = some oj → listed.getD j false ≠ decide (j < i) → (reachB ops ops.length j i = false ∧ j < i) ∨ (reachB ops ops.length i j = false ∧ i < j) := by
      intro j oj hj hne
      by_cases hji : j < i
      · left
        refine ⟨?_, hji⟩
        have hlj : listed.getD j false = false := by
          have : decide (j < i) = true := by simpa using hji
          rw [this] at hne
          simpa using hne
        cases hr : reachB ops ops.length j i with
        | false => rfl
        | true => have := reach_listed hcl _ j i o ho hprev hr; rw [hlj] at this; cases this
      · by_cases hji2 : j = i
        · subst hji2; rw [hunf] at hne; simp at hne
        · right
          refine ⟨?_, by omega⟩
          have hlj : listed.getD j false = true := by
            have : decide (j < i) = false := by simpa using hji
            rw [this] at hne
            simpa using hne
          cases hr : reachB ops ops.length i j with
          | false => rfl
          | true => have := reach_listed hcl _ i j oj hj (hcl j oj hlj hj) hr; rw [hunf] at this; cases this
    have hapart : ∀ (j : Nat) (oj : Oper), ops[j]? = some oj → listed.getD j false ≠ decide (j < i) → (∀ d, oj.dst = some d → d ∉ o.looksAt ops.toArray) ∧ (∀ d, o.dst = some d → oj.dst ≠ some d) := by
      intro j oj hj hne
      rcases hun2 j oj hj hne with ⟨h1, h2⟩ | ⟨h1, h2⟩
      · have := hap i him j h2
        rw [h1, hj, ho] at this
        obtain ⟨a1, a2, a3⟩ := Oper.apart_spec (this.resolve_left (by simp))
        exact ⟨a1, fun d hd e => a2 d e hd⟩
      · have hjm : j < ops.length := (List.getElem?_eq_some_iff.1 hj).1
        have := hap j hjm i h2
        rw [h1, hj, ho] at this
        obtain ⟨a1, a2, a3⟩ := Oper.apart_spec (this.resolve_left (by simp))
        exact ⟨a3, a2⟩
    have hdisj : ∀ (j : Nat) (ej : Ef), es[j]? = some ej → listed.getD j false ≠ decide (j < i) → (∀ id ∈ wids ej, id ∉ rids e ∧ id ∉ wids e) := by
      intro j ej hej hne
      have hjm : j < ops.length := by rw [← hel]; exact (List.getElem?_eq_some_iff.1 hej).1
      have hj : ops[j]? = some ops[j] := List.getElem?_eq_getElem hjm
      have key : ∀ (x y : Nat) (ox oy : Oper) (ex ey : Ef), x < y → ops[x]? = some ox → ops[y]? = some oy → es[x]? = some ex → es[y]? = some ey → reachB ops ops.length x y = false → EDisj ex ey := by
        intro x y ox oy ex ey hxy hox hoy hex hey hr
        by_cases hm : (mayWrite ox.op || mayWrite oy.op) = true
        · refine disAll_mem (p := (x, y)) hD ?_ hex hey
          unfold unord
          rw [List.mem_flatMap]
          refine ⟨y, List.mem_range.2 (List.getElem?_eq_some_iff.1 hoy).1, ?_⟩
          rw [List.mem_filterMap]
          refine ⟨x, List.mem_range.2 hxy, ?_⟩
          rw [hr, hox, hoy]
          simp only [Bool.false_eq_true, if_false]
          rw [if_pos hm]
        · simp only [Bool.or_eq_true, not_or, Bool.not_eq_true] at hm
          have w1 := writesOk_at x hW hox hex hm.1
          have w2 := writesOk_at y hW hoy hey hm.2
          refine ⟨fun id hid => ?_, fun id hid => ?_⟩
          · simp [wids, w1] at hid
          · simp [wids, w2] at hid
      rcases hun2 j _ hj hne with ⟨h1, h2⟩ | ⟨h1, h2⟩
      · exact (key j i _ _ _ _ h2 hj ho hej he h1).1
      · have := key i j _ _ _ _ h2 ho hj he hej h1
        exact fun id hid => ⟨this.2 id hid, fun hm => (this.1 id hm).2 hid⟩
    -- what it sees is what it saw in the text's order
    have hlook : ∀ x, x ∈ o.looksAt ops.toArray → look (slotsAt (fun j => listed.getD j false) ops es 0 t) x = look (slotsAt (fun j => decide (j < i)) ops es 0 t) x := by
      intro x hx
      refine slotsAt_agree rfl fun j oj hj hne => ?_
      rw [Nat.zero_add] at hne
      exact fun hd => (hapart j oj hj hne).1 x hd hx
    have hheap : ∀ id, id ∈ rids e ∨ id ∈ wids e → heapAt (fun j => listed.getD j false) es 0 h id = heapAt (fun j => decide (j < i)) es 0 h id := by
      intro id hid
      refine heapAt_agree rfl fun j ej hej hne => ?_
      rw [Nat.zero_add] at hne
      intro hw
      have := hdisj j ej hej hne id hw
      rcases hid with h | h
      · exact this.1 h
      · exact this.2 h
    obtain ⟨hfit, hwant, hoff, hrun⟩ := hE
    have hev : ∀ x ∈ o.op.operands, aev (slotsAt (fun j => listed.getD j false) ops es 0 t) x = aev (slotsAt (fun j => decide (j < i)) ops es 0 t) x := by
      intro x hx
      cases x with
      | tmp d => exact hlook d (List.mem_append_left _ (List.mem_filterMap.2 ⟨.tmp d, by simpa using hx, rfl⟩))
      | _ => rfl
    have hwant' : awanted ops (slotsAt (fun j => listed.getD j false) ops es 0 t) o = some e.on := by
      rw [← hwant]
      unfold awanted
      cases hg : o.guard with
      | none => rfl
      | some q =>
        obtain ⟨j, want⟩ := q
        simp only
        cases hd : (ops[j]?).bind (·.dst) with
        | none => rfl
        | some d =>
          simp only
          rw [hlook d (List.mem_append_right _ (by simp [hg, hd]))]
    -- and what it leaves is the state of one more
    have hset : ∀ j, (listed.setIfInBounds i true).getD j false = if j = i then true else listed.getD j false := by
      intro j
      rw [Array.getD_eq_getD_getElem?, Array.getD_eq_getD_getElem?, Array.getElem?_setIfInBounds]
      by_cases e1 : i = j
      · subst e1; simp [hisz]
      · rw [if_neg e1, if_neg (fun e => e1 e.symm)]
    have hS1 : ∀ x, look (slotsAt (fun j => (listed.setIfInBounds i true).getD j false) ops es 0 t) x = look (aput (slotsAt (fun j => listed.getD j false) ops es 0 t) o.dst e.v) x := by
      intro x
      by_cases hx : o.dst = some x
      · rw [hx, look_aput, if_pos rfl]
        refine slotsAt_last ho he (by rw [Nat.zero_add, hset]; simp) hx fun j oj hij hj hSj => ?_
        rw [Nat.zero_add, hset, if_neg (by omega)] at hSj
        exact (hapart j oj hj (by rw [hSj]; simp; omega)).2 x hx
      · rw [look_aput_ne hx]
        refine slotsAt_agree rfl fun j oj hj hne => ?_
        rw [Nat.zero_add, hset] at hne
        by_cases e1 : j = i
        · subst e1; rw [ho] at hj; cases hj; exact hx
        · rw [if_neg e1] at hne; exact absurd rfl hne
    have hH1 : ∀ id, heapAt (fun j => (listed.setIfInBounds i true).getD j false) es 0 h id = hp (heapAt (fun j => listed.getD j false) es 0 h) e.wr id := by
      intro id
      by_cases hid : id ∈ wids e
      · refine heapAt_last he (by rw [Nat.zero_add, hset]; simp) hid fun j ej hij hej hSj => ?_
        rw [Nat.zero_add, hset, if_neg (by omega)] at hSj
        intro hw
        exact (hdisj j ej hej (by rw [hSj]; simp; omega) id hw).2 hid
      · rw [hp_ne fun p hp e1 => hid (List.mem_map.2 ⟨p, hp, e1⟩)]
        refine heapAt_agree rfl fun j ej hej hne => ?_
        rw [Nat.zero_add, hset] at hne
        by_cases e1 : j = i
        · subst e1; rw [he] at hej; cases hej; exact hid
        · rw [if_neg e1] at hne; exact absurd rfl hne
    have hclosed : Closed ops (listed.setIfInBounds i true) := by
      intro j oj hj hoj e' he' hb
      rw [hset] at hj ⊢
      by_cases e1 : e'.on = i
      · rw [if_pos e1]
      · rw [if_neg e1]
        by_cases e2 : j = i
        · subst e2; rw [ho] at hoj; cases hoj; exact hprev e' he' hb
        · rw [if_neg e2] at hj; exact hcl j oj hj hoj e' he' hb
    have hcount : (listed.setIfInBounds i true).toList.countP (fun b => !b) = fuel := by
      rw [Array.toList_setIfInBounds, List.countP_set (by simpa using hisz)]
      have : listed.toList[i]'(by simpa using hisz) = false := by
        have := hunf
        rw [Array.getD_eq_getD_getElem?, Array.getElem?_eq_getElem hisz] at this
        simpa using this
      rw [this]
      simp only [Bool.not_false, if_true, Bool.not_true, Bool.false_eq_true, if_false]
      omega
    have next : ∀ (u : Value) (G' : Gh) (w' : World), G.Le G' → HRel G' (hp (heapAt (fun j => listed.getD j false) es 0 h) e.wr) w' → Rel G' e.v u →
        wpAny P .any ops.toArray Q fuel (listed.setIfInBounds i true) (a.put o.dst u) w' := by
      intro u G' w' hl hh hv
      refine ih _ _ w' G' (by simpa using hsz) hclosed hcount (hle.trans hl) ?_
      exact (st.put hl hh hfit hv).same hS1 hH1
    have hfresh : ∃ m, ∀ k, m ≤ k → heapAt (fun j => listed.getD j false) es 0 h k = none := by
      obtain ⟨m, hm⟩ := hB
      refine ⟨m, fun k hk => ?_⟩
      have e1 : heapAt (fun j => listed.getD j false) es 0 h k = heapAt (fun _ => false) es 0 h k :=
        heapAt_agree rfl fun j ej hej _ => (hm k hk).2 ej (List.mem_of_getElem? hej)
      have none_ : ∀ (es : List Ef) (i : Nat) (h : AHeap), heapAt (fun _ => false) es i h = h := by
        intro es
        induction es with
        | nil => intro i h; rfl
        | cons e es ih => intro i h; simp [heapAt, ih]
      rw [e1, none_]; exact (hm k hk).1
    unfold wpOp
    simp only [ho']
    cases hb : e.on with
    | true =>
      rw [if_pos (by rw [awanted_run st hwant', hb])]
      obtain ⟨r1, r2, r3⟩ := hrun hb
      refine .inl (r3 _ _ hev ?_ ?_ hfresh st.heap st.ev next)
      · intro p hp'
        rw [hheap p.1 (.inl (List.mem_map.2 ⟨p, hp', rfl⟩))]; exact r1 p hp'
      · intro p hp'
        rcases r2 p hp' with h1 | h1
        · exact .inl h1
        · exact .inr (by rw [hheap p.1 (.inr (List.mem_map.2 ⟨p, hp', rfl⟩))]; exact h1)
    | false =>
      rw [if_neg (by rw [awanted_run st hwant', hb]; simp)]
      obtain ⟨q1, q2⟩ := hoff hb
      refine next undef G w (.refl G) ?_ (by rw [q2]; exact rel_val)
      rw [q1]; exact st.heap

end Go.AM

/- Operations are local: they look at their operands and at the blocks that these name. Drawn regions, computed. -/
namespace Go.AM
set_option linter.unusedVariables false
set_option linter.unusedSimpArgs false
open Go Go.RowKit
set_option linter.unusedSectionVars false
variable [Glob]

theorem ablk_rd {h : AHeap} {x : AV} : ∀ p ∈ ablk h x, h p.1 = some p.2 := by
  intro p hp
  cases x <;> simp only [ablk] at hp <;> first | (cases hp; done) | skip
  all_goals
    split at hp
    · rename_i k hk; simp at hp; subst hp; exact hk
    · cases hp

theorem ablko_rd {h : AHeap} {x : AV} : ∀ p ∈ ablko h x, h p.1 = some p.2 := by
  intro p hp
  cases x <;> simp only [ablko] at hp <;> first | (cases hp; done) | skip
  all_goals
    split at hp
    · rename_i k hk; simp at hp; subst hp; exact hk
    · cases hp

theorem acells_local {h h' : AHeap} {n : Nat} {x : AV} {cs : List AV} (hx : acells h n x = some cs) (hh : ∀ p ∈ ablk h x, h' p.1 = some p.2) : acells h' n x = some cs ∧ ablk h' x = ablk h x := by
  cases x with
  | ptr id ver i j =>
    cases hk : h id with
    | none => simp [acells, hk] at hx
    | some k =>
      have h1 := hh (id, k) (by simp [ablk, hk])
      simp only at h1
      refine ⟨?_, by simp [ablk, hk, h1]⟩
      simp only [acells, hk, h1] at hx ⊢
      exact hx
  | iptr cs => exact ⟨by simpa [acells] using hx, by simp [ablk]⟩
  | _ => simp [acells] at hx

theorem aload_local {P : Program} {h h' : AHeap} {t : TypeId} {x v : AV} (hx : aload P h t x = some v) (hh : ∀ p ∈ ablk h x, h' p.1 = some p.2) : aload P h' t x = some v ∧ ablk h' x = ablk h x := by
  unfold aload at hx ⊢
  split at hx
  · rw [Option.map_eq_some_iff] at hx
    obtain ⟨cs, hc, rfl⟩ := hx
    obtain ⟨h1, h2⟩ := acells_local hc hh
    exact ⟨by rw [h1]; rfl, h2⟩
  · rw [Option.bind_eq_some_iff] at hx
    obtain ⟨cs, hc, hv⟩ := hx
    obtain ⟨h1, h2⟩ := acells_local hc hh
    exact ⟨by rw [h1]; exact hv, h2⟩
  · cases hx

theorem astore_local {P : Program} {h h' : AHeap} {t : TypeId} {x v : AV} {id : Nat} {k k' : Blk} (hx : astore P h t x v = some (id, k, k')) (hh : h' id = some k) : astore P h' t x v = some (id, k, k') ∧ h id = some k := by
  unfold astore at hx ⊢
  split at hx
  · split at hx
    · rename_i id' ver i j
      cases hk : h id' with
      | none => rw [hk] at hx; cases hx
      | some kk =>
        cases kk with
        | mp => rw [hk] at hx; cases hx
        | row ver' e sz es =>
          rw [hk] at hx
          simp only at hx
          have hid : id' = id ∧ Blk.row ver' e sz es = k := by
            split at hx
            · split at hx
              · split at hx
                · cases hx; exact ⟨rfl, rfl⟩
                · cases hx
              · cases hx
            · cases hx
          obtain ⟨rfl, rfl⟩ := hid
          simp only [hh]
          exact ⟨hx, hk⟩
    · cases hx
  · cases hx

theorem asrc_local {h h' : AHeap} {sz : Nat} {x : AV} {es : List (List AV)} (hx : asrc h sz x = some es) (hh : ∀ p ∈ ablko h x, h' p.1 = some p.2) : asrc h' sz x = some es ∧ ablko h' x = ablko h x := by
  cases x with
  | own id ver off len =>
    cases hk : h id with
    | none => simp [asrc, hk] at hx
    | some k =>
      have h1 := hh (id, k) (by simp [ablko, hk])
      simp only at h1
      refine ⟨?_, by simp [ablko, hk, h1]⟩
      simp only [asrc, hk, h1] at hx ⊢
      exact hx
  | sub id ver i j len =>
    cases hk : h id with
    | none => simp [asrc, hk] at hx
    | some k =>
      have h1 := hh (id, k) (by simp [ablko, hk])
      simp only at h1
      refine ⟨?_, by simp [ablko, hk, h1]⟩
      simp only [asrc, hk, h1] at hx ⊢
      exact hx
  | p x =>
    refine ⟨?_, by simp [ablko]⟩
    cases x with
    | sl => exact hx
    | v x =>
      cases x <;> first
        | exact hx
        | (rename_i a n c; cases a <;> cases n <;> cases c <;> exact hx)
  | _ => simp [asrc] at hx

theorem aapp_local {P : Program} {h h' : AHeap} {nm : Nat} {t : TypeId} {s x v : AV} {rd wr : Locs} (hx : aapp P h nm t s x = some (rd, wr, v)) (h1 : ∀ p ∈ rd, h' p.1 = some p.2) (h2 : ∀ p ∈ ablko h x, h' p.1 = some p.2) :
    aapp P h' nm t s x = some (rd, wr, v) ∧ ablko h' x = ablko h x ∧ (∀ p ∈ rd, h p.1 = some p.2) ∧ ∀ p ∈ wr, (∃ q ∈ rd, q.1 = p.1) ∨ p.1 = nm := by
  unfold aapp at hx ⊢
  split at hx
  · rename_i e sz by_ zs ht
    split at hx
    · rename_i hc
      rw [if_pos hc]
      cases hs : asrc h sz x with
      | none => rw [hs] at hx; cases hx
      | some news =>
        obtain ⟨a1, a2⟩ := asrc_local hs h2
        rw [hs] at hx
        rw [a1]
        simp only at hx ⊢
        cases s with
        | p y =>
          cases y with
          | v y =>
            cases y with
            | slice a0 n0 c0 =>
              cases a0 with
              | none =>
                cases n0 with
                | zero =>
                  cases c0 with
                  | zero =>
                    simp only at hx ⊢
                    split at hx
                    · rename_i hlt
                      rw [if_pos hlt]
                      cases hx
                      exact ⟨rfl, a2, by simp, by simp⟩
                    · cases hx
                  | succ => simp at hx
                | succ => simp at hx
              | some => simp at hx
            | _ => simp at hx
          | sl => simp at hx
        | own id ver off len =>
          cases off with
          | succ => simp at hx
          | zero =>
            simp only at hx ⊢
            cases hk : h id with
            | none => rw [hk] at hx; cases hx
            | some k =>
              cases k with
              | mp => rw [hk] at hx; cases hx
              | row ver' e' sz' es =>
                rw [hk] at hx
                simp only at hx
                split at hx
                · rename_i hq
                  cases hx
                  have := h1 _ (List.mem_singleton.2 rfl)
                  simp only at this
                  obtain ⟨rfl, rfl, rfl, rfl, hlt⟩ := hq
                  rw [this]
                  simp only
                  rw [if_pos ⟨trivial, trivial, trivial, trivial, hlt⟩]
                  refine ⟨rfl, a2, by simp [hk], by simp⟩
                · cases hx
        | _ => simp at hx
    · cases hx
  · cases hx

theorem aidx_local {P : Program} {h h' : AHeap} {t : TypeId} {x v : AV} {i : Int} (hx : aidx P h t x i = some v) (hh : ∀ p ∈ ablko h x, h' p.1 = some p.2) : aidx P h' t x i = some v ∧ ablko h' x = ablko h x := by
  have hb : ablko h' x = ablko h x := by
    cases x with
    | own id ver off len =>
      cases hk : h id with
      | none =>
        exfalso
        unfold aidx at hx
        split at hx
        · simp [hk] at hx
        · split at hx <;> simp at hx
      | some k => have h1 := hh (id, k) (by simp [ablko, hk]); simp only at h1; simp [ablko, hk, h1]
    | sub id ver a b len =>
      cases hk : h id with
      | none =>
        exfalso
        unfold aidx at hx
        split at hx
        · simp [hk] at hx
        · split at hx <;> simp at hx
      | some k => have h1 := hh (id, k) (by simp [ablko, hk]); simp only at h1; simp [ablko, hk, h1]
    | _ => simp [ablko]
  refine ⟨?_, hb⟩
  unfold aidx at hx ⊢
  split at hx
  · split at hx
    · exact hx
    · rename_i id ver off len
      cases hk : h id with
      | none => rw [hk] at hx; cases hx
      | some k =>
        have h1 := hh (id, k) (by simp [ablko, hk])
        simp only at h1
        rw [hk] at hx
        simp only [h1]
        exact hx
    · rename_i id ver a b len
      cases hk : h id with
      | none => rw [hk] at hx; cases hx
      | some k =>
        have h1 := hh (id, k) (by simp [ablko, hk])
        simp only at h1
        rw [hk] at hx
        simp only [h1]
        exact hx
    · cases hx
  · exact hx

theorem aslice_local {P : Program} {h h' : AHeap} {t : TypeId} {x v : AV} {lo hi mx : Option AV} (hx : aslice P h t x lo hi mx = some v) (hh : ∀ p ∈ ablko h x, h' p.1 = some p.2) : aslice P h' t x lo hi mx = some v ∧ ablko h' x = ablko h x := by
  unfold aslice at hx ⊢
  split at hx
  · split at hx
    · split at hx
      · rename_i hc
        rw [if_pos hc]
        cases x with
        | own id ver off len =>
          simp only at hx ⊢
          cases hk : h id with
          | none => rw [hk] at hx; cases hx
          | some k =>
            have h1 := hh (id, k) (by simp [ablko, hk])
            simp only at h1
            refine ⟨?_, by simp [ablko, hk, h1]⟩
            rw [hk] at hx
            simp only [h1]
            exact hx
        | p x => exact ⟨by cases x <;> exact hx, by simp [ablko]⟩
        | sub => simp at hx
        | _ => exact ⟨hx, by simp [ablko]⟩
      · cases hx
    · cases hx
  · cases hx

theorem abuiltin_local {P : Program} {h h' : AHeap} {nm : Nat} {b : Builtin} {ts : List TypeId} {args : List AV} {rd wr : Locs} {v : AV} (hx : abuiltin P h nm b ts args = some (rd, wr, v)) (hh : ∀ p ∈ rd, h' p.1 = some p.2) :
    abuiltin P h' nm b ts args = some (rd, wr, v) ∧ (∀ p ∈ rd, h p.1 = some p.2) ∧ ∀ p ∈ wr, (∃ q ∈ rd, q.1 = p.1) ∨ p.1 = nm := by
  unfold abuiltin at hx ⊢
  split at hx
  · refine ⟨hx, ?_⟩
    split at hx
    · cases hx; simp
    · split at hx
      · rw [Option.map_eq_some_iff] at hx; obtain ⟨n, _, hx⟩ := hx; cases hx; simp
      · split at hx
        · split at hx
          · cases hx; simp
          · cases hx
        · cases hx
  · split at hx
    · rename_i e
      rw [if_pos e]
      rw [Option.map_eq_some_iff] at hx
      obtain ⟨⟨rd', wr', v'⟩, ha, hx⟩ := hx
      cases hx
      obtain ⟨h1, h2, h3, h4⟩ := aapp_local ha (fun p hp => hh p (List.mem_append_left _ hp)) (fun p hp => hh p (List.mem_append_right _ hp))
      refine ⟨by rw [h1, h2]; rfl, fun p hp => ?_, fun p hp => ?_⟩
      · rcases List.mem_append.1 hp with hp | hp
        · exact h3 p hp
        · exact ablko_rd p hp
      · rcases h4 p hp with ⟨q, hq, e⟩ | h
        · exact .inl ⟨q, List.mem_append_left _ hq, e⟩
        · exact .inr h
    · cases hx
  · refine ⟨hx, ?_⟩
    split at hx
    · split at hx
      · cases hx; simp
      · cases hx
    · cases hx
  · refine ⟨hx, ?_⟩
    split at hx
    · split at hx
      · cases hx; simp
      · cases hx
    · cases hx
  · cases hx

theorem map_ev {ev ev' : Operand → AV} : ∀ {l : List Operand}, (∀ x ∈ l, ev' x = ev x) → l.map ev' = l.map ev
  | [], _ => rfl
  | x :: l, h => by simp only [List.map_cons]; rw [h x (by simp), map_ev fun y hy => h y (by simp [hy])]

theorem map_ev2 {ev ev' : Operand → AV} : ∀ {l : List (Nat × Operand)}, (∀ x ∈ l.map (·.2), ev' x = ev x) → l.map (fun p => (p.1, ev' p.2)) = l.map (fun p => (p.1, ev p.2))
  | [], _ => rfl
  | x :: l, h => by simp only [List.map_cons] at h ⊢; rw [h x.2 (by simp), map_ev2 fun y hy => h y (by simp [hy])]

theorem aexec_ev {P : Program} {op : Op} {ev ev' : Operand → AV} (h : AHeap) (nm : Nat) (he : ∀ x ∈ op.operands, ev' x = ev x) : aexec P op ev' h nm = aexec P op ev h nm := by
  cases op with
  | build t parts => simp only [Op.operands] at he; simp only [aexec]; rw [map_ev2 fun x hx => he x (by simpa using hx)]
  | buildSlice t n parts => simp only [Op.operands] at he; simp only [aexec]; rw [map_ev2 fun x hx => he x (by simpa using hx)]
  | makeFunc f a b =>
    simp only [Op.operands] at he; simp only [aexec]
    rw [map_ev (l := a.toList) fun x hx => he x (by simp at hx ⊢; exact .inl hx), map_ev (l := b.toList) fun x hx => he x (by simp at hx ⊢; exact .inr hx)]
  | slice t x lo hi mx =>
    simp only [Op.operands] at he; simp only [aexec]
    rw [he x (by simp)]
    cases lo <;> cases hi <;> cases mx <;> simp_all
  | call c =>
    obtain ⟨callee, args, ats⟩ := c
    cases callee with
    | builtin b => simp only [Op.operands, Call.operands] at he; simp only [aexec]; rw [map_ev fun x hx => he x (by simpa using hx)]
    | _ => rfl
  | unOp o t x => simp only [Op.operands] at he; cases o <;> simp only [aexec] <;> (try rw [he x (by simp)])
  | move x => simp only [Op.operands] at he; simp only [aexec]; rw [he x (by simp)]
  | assign x => simp only [Op.operands] at he; simp only [aexec]; rw [he x (by simp)]
  | pick c a b => simp only [Op.operands] at he; simp only [aexec]; rw [he c (by simp), he a (by simp), he b (by simp)]
  | box e x => simp only [Op.operands] at he; simp only [aexec]; rw [he x (by simp)]
  | load t x => simp only [Op.operands] at he; simp only [aexec]; rw [he x (by simp)]
  | store t x y => simp only [Op.operands] at he; simp only [aexec]; rw [he x (by simp), he y (by simp)]
  | nilCheck x => simp only [Op.operands] at he; simp only [aexec]; rw [he x (by simp)]
  | binOp o t x y yt => simp only [Op.operands] at he; simp only [aexec]; rw [he x (by simp), he y (by simp)]
  | convert s d x => simp only [Op.operands] at he; simp only [aexec]; rw [he x (by simp)]
  | makeSlice t l c => simp only [Op.operands] at he; simp only [aexec]; rw [he l (by simp), he c (by simp)]
  | fieldAddr s x f => simp only [Op.operands] at he; simp only [aexec]; rw [he x (by simp)]
  | field s x f => simp only [Op.operands] at he; simp only [aexec]; rw [he x (by simp)]
  | indexAddr t x i => simp only [Op.operands] at he; simp only [aexec]; rw [he x (by simp), he i (by simp)]
  | index t x i => simp only [Op.operands] at he; simp only [aexec]; rw [he x (by simp), he i (by simp)]
  | extract x i => simp only [Op.operands] at he; simp only [aexec]; rw [he x (by simp)]
  | _ => rfl

theorem aexec_heap {P : Program} {op : Op} {ev : Operand → AV} {h h' : AHeap} {nm : Nat} {rd wr : Locs} {v : AV} (hx : aexec P op ev h nm = some (rd, wr, v)) (hh : ∀ p ∈ rd, h' p.1 = some p.2) :
    aexec P op ev h' nm = some (rd, wr, v) ∧ (∀ p ∈ rd, h p.1 = some p.2) ∧ ∀ p ∈ wr, (∃ q ∈ rd, q.1 = p.1) ∨ p.1 = nm := by
  cases op with
  | load t x =>
    simp only [aexec, Option.map_eq_some_iff] at hx ⊢
    obtain ⟨v', hl, hx⟩ := hx
    cases hx
    obtain ⟨h1, h2⟩ := aload_local hl hh
    exact ⟨⟨_, h1, by rw [h2]⟩, ablk_rd, by simp⟩
  | store t x y =>
    simp only [aexec, Option.map_eq_some_iff] at hx ⊢
    obtain ⟨⟨id, k, k'⟩, hl, hx⟩ := hx
    cases hx
    obtain ⟨h1, h2⟩ := astore_local hl (hh _ (List.mem_singleton.2 rfl))
    exact ⟨⟨_, h1, rfl⟩, by simp [h2], by simp⟩
  | slice t x lo hi mx =>
    simp only [aexec] at hx ⊢
    split at hx
    · rename_i hc
      rw [if_pos hc]
      split at hx
      · rw [Option.map_eq_some_iff] at hx ⊢
        obtain ⟨v', hl, hx⟩ := hx
        cases hx
        obtain ⟨h1, h2⟩ := aslice_local hl hh
        exact ⟨⟨_, h1, by rw [h2]⟩, ablko_rd, by simp⟩
      · refine ⟨hx, ?_⟩
        split at hx
        · cases hx
        · rw [Option.map_eq_some_iff] at hx
          obtain ⟨v', hl, hx⟩ := hx
          cases hx
          simp
    · cases hx
  | convert s d x =>
    simp only [aexec] at hx ⊢
    split at hx
    · rename_i h1 h2 h3
      cases hx
      exact ⟨rfl, by simp, by simp⟩
    · split at hx
      · rename_i hc
        rw [if_pos hc]
        split at hx
        · rename_i es hs
          rw [Option.map_eq_some_iff] at hx
          obtain ⟨b, hb, hx⟩ := hx
          cases hx
          obtain ⟨h1, h2⟩ := asrc_local hs hh
          rw [h1]
          refine ⟨?_, ablko_rd, by simp⟩
          simp only [hb, Option.map_some, h2]
        · cases hx
      · cases hx
  | indexAddr t x i =>
    simp only [aexec] at hx ⊢
    split at hx
    · rw [Option.map_eq_some_iff] at hx ⊢
      obtain ⟨v', hl, hx⟩ := hx
      cases hx
      obtain ⟨h1, h2⟩ := aidx_local hl hh
      exact ⟨⟨_, h1, by rw [h2]⟩, ablko_rd, by simp⟩
    · cases hx
  | call c =>
    obtain ⟨callee, args, ats⟩ := c
    cases callee with
    | builtin b => simp only [aexec] at hx ⊢; exact abuiltin_local hx hh
    | _ => simp [aexec] at hx
  | unOp o t x =>
    cases o <;> simp only [aexec] at hx <;> first
      | (cases hx; done)
      | (refine ⟨by simp only [aexec]; exact hx, ?_⟩; (repeat' split at hx) <;> first | (cases hx; done) | (cases hx; simp; done))
  | _ =>
    refine ⟨by simp only [aexec] at hx ⊢; exact hx, ?_⟩
    simp only [aexec] at hx
    (repeat' split at hx) <;> first
      | (cases hx; done)
      | (cases hx; simp; done)
      | (obtain ⟨rfl, rfl, _⟩ := aeqx_some hx; simp; done)
      | (rw [Option.map_eq_some_iff] at hx; obtain ⟨_, _, hx⟩ := hx; cases hx; simp; done)

theorem aexec_loc {P : Program} {o : Oper} {t : Slots} {h : AHeap} {nm : Nat} {rd wr : Locs} {v : AV} (hn : h nm = none) (hx : aexec P o.op (aev t) h nm = some (rd, wr, v)) : OpLoc P o t ⟨true, rd, wr, v⟩ := by
  intro t' h' he hr hw _ G a w H hev K Q' hK
  obtain ⟨h1, h2, h3⟩ := aexec_heap hx hr
  have h4 := aexec_ev (P := P) h' nm he
  rw [h1] at h4
  refine oper_wp_of_run (aexec_run H (fun p hp e => ?_) hev h4) hK
  rcases hw p hp with ⟨q, hq, e2⟩ | h
  · have := h2 q hq
    rw [e2, e, hn] at this
    cases this
  · rw [← e]; exact h

end Go.AM

/- Drawn regions, computed; calls in them. -/
namespace Go.AM
set_option linter.unusedVariables false
set_option linter.unusedSimpArgs false
open Go Go.RowKit
set_option linter.unusedSectionVars false
variable [Glob]

/-- A function that leaves memory as it was. -/
def Pure (P : Program) (f : FuncId) (args : List AV) (v : AV) : Prop := ∀ F n, Fresh F [] n → ACalls P f args F (fun r h' => h' = F ∧ r = v)

/-- A function that reads the blocks rd and leaves wr in their place. -/
def Does (P : Program) (f : FuncId) (args : List AV) (rd wr : Locs) (v : AV) : Prop :=
  ∀ F n, Fresh F [] n → (∀ p ∈ rd, F p.1 = some p.2) → ACalls P f args F (fun r h' => h' = hp F wr ∧ r = v)

theorem Pure.does {P : Program} {f : FuncId} {args : List AV} {v : AV} (H : Pure P f args v) : Does P f args [] [] v := fun F n hf _ => H F n hf

def stepE (P : Program) (N : Nat) (F : AHeap) (ops : List Oper) (o : Oper) : Option (St × List Ef) → Option (St × List Ef)
  | some ((t, L, n), es) => fin o es ((t, L, n), awanted ops t o, aexec P o.op (aev t) (hp F L) n)
  | none => none
where
  fin (o : Oper) (es : List Ef) : St × Option Bool × Option Eff → Option (St × List Ef)
  | ((t, L, n), some true, some r) => if fits N o.dst then some ((aput t o.dst r.2.2, r.2.1 ++ L, if makes o.op then n + 1 else n), es ++ [⟨true, r.1, r.2.1, r.2.2⟩]) else none
  | ((t, L, n), some false, _) => if fits N o.dst then some ((aput t o.dst (.p (.v undef)), L, n), es ++ [⟨false, [], [], .p (.v undef)⟩]) else none
  | _ => none

def runE (P : Program) (N : Nat) (F : AHeap) (ops : List Oper) : List Oper → Option (St × List Ef) → Option (St × List Ef)
  | [], s => s
  | o :: rest, s => runE P N F ops rest (stepE P N F ops o s)

theorem runE_none {P : Program} {N : Nat} {F : AHeap} {ops : List Oper} : ∀ (l : List Oper), runE P N F ops l none = none
  | [] => rfl
  | o :: l => by simp only [runE, stepE]; exact runE_none l

theorem aexec_nowr {P : Program} {op : Op} {ev : Operand → AV} {h : AHeap} {nm : Nat} {rd wr : Locs} {v : AV} (hx : aexec P op ev h nm = some (rd, wr, v)) (hm : mayWrite op = false) : wr = [] := by
  cases op with
  | call c =>
    obtain ⟨callee, args, ats⟩ := c
    cases callee with
    | builtin b =>
      simp only [aexec] at hx
      unfold abuiltin at hx
      split at hx
      · (repeat' split at hx) <;> first | (cases hx; done) | (cases hx; rfl) | (rw [Option.map_eq_some_iff] at hx; obtain ⟨n, _, hx⟩ := hx; cases hx; rfl)
      · simp [mayWrite] at hm
      · (repeat' split at hx) <;> first | (cases hx; done) | (cases hx; rfl)
      · (repeat' split at hx) <;> first | (cases hx; done) | (cases hx; rfl)
      · cases hx
    | _ => simp [aexec] at hx
  | unOp o t x => cases o <;> simp only [aexec] at hx <;> first | (cases hx; done) | ((repeat' split at hx) <;> first | (cases hx; done) | (cases hx; rfl))
  | alloc => simp [mayWrite, makes] at hm
  | box => simp [mayWrite, makes] at hm
  | buildSlice => simp [mayWrite, makes] at hm
  | makeSlice => simp [mayWrite, makes] at hm
  | store => simp [mayWrite] at hm
  | _ =>
    simp only [aexec] at hx
    (repeat' split at hx) <;> first
      | (cases hx; done)
      | (cases hx; rfl)
      | (exact (aeqx_some hx).2.1)
      | (rw [Option.map_eq_some_iff] at hx; obtain ⟨_, _, hx⟩ := hx; cases hx; rfl)

theorem aapp_rd {P : Program} {h : AHeap} {nm : Nat} {ty : TypeId} {s x v : AV} {rd wr : Locs} (ha : aapp P h nm ty s x = some (rd, wr, v)) : ∀ p ∈ rd, h p.1 = some p.2 := by
  unfold aapp at ha
  split at ha
  · split at ha
    · split at ha
      · split at ha
        · split at ha
          · cases ha; simp
          · cases ha
        · split at ha
          · rename_i hk
            split at ha
            · rename_i hc; cases ha; obtain ⟨rfl, rfl, rfl, _⟩ := hc; simp [hk]
            · cases ha
          · cases ha
        · cases ha
      · cases ha
    · cases ha
  · cases ha

theorem aexec_rd {P : Program} {op : Op} {ev : Operand → AV} {h : AHeap} {nm : Nat} {rd wr : Locs} {v : AV} (hx : aexec P op ev h nm = some (rd, wr, v)) : ∀ p ∈ rd, h p.1 = some p.2 := by
  cases op with
  | load t x =>
    simp only [aexec, Option.map_eq_some_iff] at hx
    obtain ⟨v', hl, hx⟩ := hx
    cases hx
    exact ablk_rd
  | store ty x y =>
    simp only [aexec, Option.map_eq_some_iff] at hx
    obtain ⟨⟨id, k, k'⟩, hl, hx⟩ := hx
    cases hx
    intro p hp
    simp at hp
    subst hp
    unfold astore at hl
    (repeat' split at hl) <;> first | (cases hl; done) | skip
    rename_i hk _ _ _ _ _
    cases hl
    simp_all
  | slice t x lo hi mx =>
    simp only [aexec] at hx
    split at hx
    · split at hx
      · rw [Option.map_eq_some_iff] at hx
        obtain ⟨v', hl, hx⟩ := hx
        cases hx
        exact ablko_rd
      · split at hx
        · cases hx
        · rw [Option.map_eq_some_iff] at hx
          obtain ⟨v', hl, hx⟩ := hx
          cases hx
          simp
    · cases hx
  | convert s d x =>
    simp only [aexec] at hx
    split at hx
    · cases hx; simp
    · split at hx
      · split at hx
        · rw [Option.map_eq_some_iff] at hx
          obtain ⟨b, hb, hx⟩ := hx
          cases hx
          exact ablko_rd
        · cases hx
      · cases hx
  | indexAddr t x i =>
    simp only [aexec] at hx
    split at hx
    · rw [Option.map_eq_some_iff] at hx
      obtain ⟨v', hl, hx⟩ := hx
      cases hx
      exact ablko_rd
    · cases hx
  | call c =>
    obtain ⟨callee, args, ats⟩ := c
    cases callee with
    | builtin b =>
      simp only [aexec] at hx
      unfold abuiltin at hx
      split at hx
      · (repeat' split at hx) <;> first | (cases hx; done) | (cases hx; simp; done) | (rw [Option.map_eq_some_iff] at hx; obtain ⟨n, _, hx⟩ := hx; cases hx; simp; done)
      · split at hx
        · rw [Option.map_eq_some_iff] at hx
          obtain ⟨⟨rd', wr', v'⟩, ha, hx⟩ := hx
          cases hx
          intro p hp
          rcases List.mem_append.1 hp with hp | hp
          · exact aapp_rd ha p hp
          · exact ablko_rd p hp
        · cases hx
      · (repeat' split at hx) <;> first | (cases hx; done) | (cases hx; simp; done)
      · (repeat' split at hx) <;> first | (cases hx; done) | (cases hx; simp; done)
      · cases hx
    | _ => simp [aexec] at hx
  | unOp o t x => cases o <;> simp only [aexec] at hx <;> first | (cases hx; done) | ((repeat' split at hx) <;> first | (cases hx; done) | (cases hx; simp; done))
  | _ =>
    simp only [aexec] at hx
    (repeat' split at hx) <;> first
      | (cases hx; done)
      | (cases hx; simp; done)
      | (obtain ⟨rfl, rfl, _⟩ := aeqx_some hx; simp; done)
      | (rw [Option.map_eq_some_iff] at hx; obtain ⟨_, _, hx⟩ := hx; cases hx; simp; done)

/-- What is known of the operations of a drawn region that have been looked at, and what is left. -/
def DS (P : Program) (N : Nat) (F : AHeap) (ops : List Oper) (us : List (Nat × Nat)) (Q : SPost) (dn : List Ef) (rest : List Oper) (t : Slots) (L : Locs) (n : Nat) : Prop :=
  Fresh F L n → ∃ es t' L' n', EChain P N ops rest es t (hp F L) ∧ writesOk rest es ∧ (∀ k, slotsAt (fun _ => true) rest es k t = t') ∧ (∀ k, heapAt (fun _ => true) es k (hp F L) = hp F L') ∧ Fresh F L' n' ∧
    (∀ k, n' ≤ k → ∀ e ∈ es, k ∉ wids e) ∧ n ≤ n' ∧ disAll (dn ++ es) us ∧ Q .normal t' L' n'

section
variable {P : Program} {N : Nat} {F : AHeap} {ops : List Oper} {us : List (Nat × Nat)} {Q : SPost} {t : Slots} {L : Locs} {n : Nat} {dn : List Ef} {rest : List Oper}

theorem ds_nil (hd : disAll dn us) (H : Q .normal t L n) : DS P N F ops us Q dn [] t L n :=
  fun hf => ⟨[], t, L, n, trivial, trivial, fun _ => rfl, fun _ => rfl, hf, by simp, Nat.le_refl _, by simpa using hd, H⟩

theorem ds_cons {o : Oper} {e : Ef} {t' : Slots} {L' : Locs} {n' : Nat} (h1 : Fresh F L n → EOk P N ops o e t (hp F L)) (hw : mayWrite o.op = false → e.wr = []) (ht : t' = aput t o.dst e.v) (hL : L' = e.wr ++ L) (hn : Fresh F L n → Fresh F L' n') (hnn : n ≤ n')
    (hids : Fresh F L n → ∀ k, n' ≤ k → k ∉ wids e) (H : DS P N F ops us Q (dn ++ [e]) rest t' L' n') : DS P N F ops us Q dn (o :: rest) t L n := by
  intro hf
  obtain ⟨es, t2, L2, n2, a1, a2, a3, a4, a5, a6, a7, a8, a9⟩ := H (hn hf)
  subst ht hL
  refine ⟨e :: es, t2, L2, n2, ⟨h1 hf, by rw [hp_append]; exact a1⟩, ⟨hw, a2⟩, fun k => by simp only [slotsAt, if_true]; exact a3 (k + 1), fun k => by simp only [heapAt, if_true]; rw [hp_append]; exact a4 (k + 1), a5, ?_, by omega, by simpa using a8, a9⟩
  intro k hk e' he'
  cases he' with
  | head => exact hids hf k (by omega)
  | tail _ he' => exact a6 k hk e' he'

theorem ds_step {o : Oper} {t' : Slots} {L' : Locs} {n' : Nat} {es es' : List Ef} (h : stepE P N F ops o (some ((t, L, n), es)) = some ((t', L', n'), es')) : ∃ e, es' = es ++ [e] ∧ (∀ {dn : List Ef}, DS P N F ops us Q (dn ++ [e]) rest t' L' n' → DS P N F ops us Q dn (o :: rest) t L n) := by
  simp only [stepE] at h
  cases hw : awanted ops t o with
  | none => rw [hw] at h; simp [stepE.fin] at h
  | some b =>
    rw [hw] at h
    cases b with
    | true =>
      cases hx : aexec P o.op (aev t) (hp F L) n with
      | none => rw [hx] at h; simp [stepE.fin] at h
      | some r =>
        obtain ⟨rd, wr, v⟩ := r
        rw [hx] at h
        simp only [stepE.fin] at h
        split at h
        · rename_i hfit
          cases h
          refine ⟨_, rfl, fun {dn} H => ?_⟩
          refine ds_cons (e := ⟨true, rd, wr, v⟩) (fun hf => ?_) (fun hm => aexec_nowr hx hm) rfl rfl (fun hf => fresh_step hf hx) (by split <;> omega) ?_ H
          · obtain ⟨_, g1, g2⟩ := aexec_heap (h' := hp F L) hx (aexec_rd hx)
            refine ⟨hfit, hw, by simp, fun _ => ⟨g1, fun p hp => ?_, aexec_loc (hf n (Nat.le_refl _)) hx⟩⟩
            rcases g2 p hp with h | h
            · exact .inl h
            · exact .inr (by rw [h]; exact hf n (Nat.le_refl _))
          · intro hf k hk hm
            simp only [wids, List.mem_map] at hm
            obtain ⟨p, hp', rfl⟩ := hm
            rcases aexec_wr hx p hp' with ⟨h1, h2⟩ | h
            · rw [h1] at hk; simp at hk; omega
            · exact h (hf p.1 (by split at hk <;> omega))
        · cases h
    | false =>
      simp only [stepE.fin] at h
      split at h
      · rename_i hfit
        cases h
        refine ⟨_, rfl, fun {dn} H => ?_⟩
        refine ds_cons (e := ⟨false, [], [], .p (.v undef)⟩) (fun hf => ⟨hfit, hw, fun _ => ⟨rfl, rfl⟩, by simp⟩) (fun _ => rfl) rfl rfl (fun hf => hf) (Nat.le_refl _) (by simp [wids]) H
      · cases h

theorem ds_runE {t' : Slots} {L' : Locs} {n' : Nat} : ∀ {l : List Oper} {t : Slots} {L : Locs} {n : Nat} {es es' : List Ef}, runE P N F ops l (some ((t, L, n), es)) = some ((t', L', n'), es') →
    ∃ d, es' = es ++ d ∧ (∀ {dn : List Ef}, DS P N F ops us Q (dn ++ d) rest t' L' n' → DS P N F ops us Q dn (l ++ rest) t L n)
  | [], t, L, n, es, es', h => by simp only [runE] at h; cases h; exact ⟨[], by simp, fun H => by simpa using H⟩
  | o :: l, t, L, n, es, es', h => by
    simp only [runE] at h
    cases hs : stepE P N F ops o (some ((t, L, n), es)) with
    | none => rw [hs, runE_none] at h; cases h
    | some q =>
      obtain ⟨⟨t1, L1, n1⟩, es1⟩ := q
      rw [hs] at h
      obtain ⟨d, rfl, hd⟩ := ds_runE h
      obtain ⟨e, rfl, he⟩ := ds_step (rest := l ++ rest) (us := us) (Q := Q) hs
      exact ⟨e :: d, by simp, fun {dn} H => he (hd (by simpa using H))⟩

/-- A part of a drawn region that holds no call. -/
theorem ds_run {l all : List Oper} {t' : Slots} {L' : Locs} {n' : Nat} {d : List Ef} (e : all = l ++ rest) (h : Is (runE P N F ops l (some ((t, L, n), []))) (some ((t', L', n'), d))) (H : DS P N F ops us Q (dn ++ d) rest t' L' n') : DS P N F ops us Q dn all t L n := by
  obtain ⟨d', e1, hd⟩ := ds_runE (rest := rest) (us := us) (Q := Q) h
  simp only [List.nil_append] at e1
  subst e1
  rw [e]; exact hd H

theorem callTri {o : Oper} {c : Call} {f : FuncId} {args : List AV} {rd wr : Locs} {v : AV} (hc : o.op = .call c) (hx : acallee t c = some (f, args)) (hp' : callable P f = true) (HC : Does P f args rd wr v) (hcop : c.operands = o.op.operands) : OpLoc P o t ⟨true, rd, wr, v⟩ := by
  intro t' h' he hr hw ⟨m, hm⟩ G a w H hev K Q' hK
  have hx' : acallee t' c = some (f, args) := by
    rw [← hx]
    unfold acallee
    obtain ⟨callee, cargs, ats⟩ := c
    have hops : ∀ x ∈ ({ callee := callee, args := cargs, argTypes := ats } : Call).operands, aev t' x = aev t x := fun x hx => he x (by rw [hc]; exact hx)
    cases callee with
    | value g =>
      have h1 : aev t' g = aev t g := hops g (by simp [Call.operands])
      have h2 : cargs.toList.map (aev t') = cargs.toList.map (aev t) := map_ev fun x hx => hops x (by simp [Call.operands]; right; simpa using hx)
      simp only [h1, h2]
    | _ => rfl
  obtain ⟨vs, hrun, hrel⟩ := acallee_run (P := P) (w := w) hev hc hx' hp'
  unfold Oper.wp
  rw [hrun]
  show Calls P f vs.toArray w _
  refine (HC h' m (fun k hk => hm k hk) hr G w vs H hrel).mono ?_
  rintro e w' ⟨u, G', r, h2, rfl, l, hh, hv, e1, e2⟩
  subst e1 e2
  exact hK u G' w' l hh hv

/-- A call in a drawn region. -/
theorem ds_call {o : Oper} {c : Call} {f : FuncId} {args : List AV} {rd wr : Locs} {v : AV} {n' : Nat} (hc : o.op = .call c) (hg : o.guard = none) (hf : fits N o.dst = true) (hx : acallee t c = some (f, args)) (hp' : callable P f = true) (HC : Does P f args rd wr v)
    (hcall : isCall o.op = true) (hrd : ∀ p ∈ rd, hp F L p.1 = some p.2) (hwr : ∀ p ∈ wr, (∃ q ∈ rd, q.1 = p.1) ∨ (n ≤ p.1 ∧ p.1 < n')) (hnn : n ≤ n') (H : DS P N F ops us Q (dn ++ [⟨true, rd, wr, v⟩]) rest (aput t o.dst v) (wr ++ L) n') :
    DS P N F ops us Q dn (o :: rest) t L n := by
  have hlt : Fresh F L n → ∀ p ∈ wr, p.1 < n' := fun hfr p hp => by
    rcases hwr p hp with ⟨q, hq, e⟩ | h
    · have h1 := hrd q hq
      by_cases h2 : p.1 < n'
      · exact h2
      · exfalso
        rw [e, hfr p.1 (by omega)] at h1
        cases h1
    · exact h.2
  refine ds_cons (e := ⟨true, rd, wr, v⟩) (fun hfr => ⟨hf, by unfold awanted; rw [hg], by simp, fun _ => ⟨hrd, fun p hp => ?_, callTri hc hx hp' HC (by rw [hc]; rfl)⟩⟩) (fun hm => ?_) rfl rfl (fun hfr => ?_) hnn (fun hfr k hk hm => ?_) H
  · rcases hwr p hp with h | ⟨h1, _⟩
    · exact .inl h
    · exact .inr (hfr p.1 h1)
  · rw [hc] at hm hcall
    obtain ⟨callee, cargs, ats⟩ := c
    cases callee <;> simp [mayWrite, isCall] at hm hcall
  · intro k hk
    rw [← hp_append, hp_ne]
    · exact hfr k (by omega)
    · intro p hp e
      have := hlt hfr p hp
      omega
  · simp only [wids, List.mem_map] at hm
    obtain ⟨p, hp', rfl⟩ := hm
    have := hlt hfr p hp'
    omega

/-- A region that draws its order. -/
theorem sw_draw {id : Nat} {ops : List Oper} (hm : P.follows .mixedOrders = true) (hs : statB ops = true) (hu : unord ops = us) (H : DS P N F ops us Q [] ops t L n) : SW P N F (.region id ops.toArray true) Q t L n := by
  intro hf G0 G a w ha hl st
  obtain ⟨es, t2, L2, n2, a1, a2, a3, a4, a5, a6, a7, a8, a9⟩ := H hf
  refine wp_region_any hm ?_
  subst hu
  have hlen : ops.toArray.size = ops.length := by simp
  have hG : HRel G (hp F L) { w with drawn := w.drawn + 1 } := ⟨st.heap.below.drew, st.heap.imm, st.heap.blk, st.heap.sep, st.heap.dom, st.heap.top, st.heap.glb, st.heap.mks, st.heap.outs, st.heap.apt⟩
  have st' : StRel N G t (hp F L) a { w with drawn := w.drawn + 1 } := ⟨st.size, st.defers, st.slots, hG⟩
  have hno : ∀ j, (Array.replicate ops.toArray.size false).getD j false = false := by
    intro j; rw [Array.getD_eq_getD_getElem?, Array.getElem?_replicate]; split <;> rfl
  refine wpAny_chain (G0 := G0) (h := hp F L) (t := t) a1 hs a2 (by simpa using a8) ⟨n2, fun k hk => ⟨hf k (by omega), a6 k hk⟩⟩ (fun G' a' w' hl' st2 => ?_) _ _ _ _ G (by simp) ?_ ?_ hl ?_
  · rw [a3, a4] at st2
    exact ⟨G', t2, hp F L2, hl', st2, L2, n2, rfl, a5, a9⟩
  · intro i o hi
    rw [hno] at hi; cases hi
  · simp [List.countP_replicate]
  · refine st'.same (fun i => ?_) fun id => ?_
    · have e1 : look (slotsAt (fun j => (Array.replicate ops.toArray.size false).getD j false) ops es 0 t) i = look (slotsAt (fun _ => false) ops es 0 t) i := slotsAt_agree rfl fun j o _ hne => by rw [hno] at hne; exact absurd rfl hne
      have none_ : ∀ (os : List Oper) (es : List Ef) (k : Nat) (t : Slots), slotsAt (fun _ => false) os es k t = t := by
        intro os
        induction os with
        | nil => intro es k t; simp [slotsAt]
        | cons o os ih => intro es k t; cases es with
          | nil => simp [slotsAt]
          | cons e es => simp [slotsAt, ih]
      rw [e1, none_]
    · have e1 : heapAt (fun j => (Array.replicate ops.toArray.size false).getD j false) es 0 (hp F L) id = heapAt (fun _ => false) es 0 (hp F L) id := heapAt_agree rfl fun j o _ hne => by rw [hno] at hne; exact absurd rfl hne
      have none_ : ∀ (es : List Ef) (k : Nat) (h : AHeap), heapAt (fun _ => false) es k h = h := by
        intro es
        induction es with
        | nil => intro k h; rfl
        | cons e es ih => intro k h; simp [heapAt, ih]
      rw [e1, none_]

end

attribute [simp] runE stepE stepE.fin disAll EDisj wids rids

end Go.AM

/- Small words for proofs: ints and words, nil slices, the ways a state is looked at. -/
namespace Go.AM
set_option linter.unusedVariables false
set_option linter.unusedSimpArgs false
open Go Go.RowKit
set_option linter.unusedSectionVars false
variable [Glob]

abbrev pi (n : Int) : PV := .v (.int .i64 n)
abbrev pu (n : Int) : PV := .v (.int .u64 n)
abbrev pb (b : Bool) : PV := .v (.bool b)
abbrev ai (n : Int) : AV := .p (pi n)
abbrev au (n : Int) : AV := .p (pu n)
abbrev ab (b : Bool) : AV := .p (pb b)
/-- A list of ints, of words: elements of one cell. -/
def ints (l : List Int) : List (List PV) := l.map fun n => [pi n]
def words (l : List Int) : List (List PV) := l.map fun n => [pu n]
def bools (l : List Bool) : List (List PV) := l.map fun n => [pb n]

@[simp] theorem ints_length (l : List Int) : (ints l).length = l.length := by simp [ints]
@[simp] theorem words_length (l : List Int) : (words l).length = l.length := by simp [words]
@[simp] theorem bools_length (l : List Bool) : (bools l).length = l.length := by simp [bools]
@[simp] theorem ints_get (l : List Int) (i : Nat) : (ints l)[i]? = (l[i]?).map fun n => [pi n] := by simp [ints]
@[simp] theorem words_get (l : List Int) (i : Nat) : (words l)[i]? = (l[i]?).map fun n => [pu n] := by simp [words]
@[simp] theorem bools_get (l : List Bool) (i : Nat) : (bools l)[i]? = (l[i]?).map fun n => [pb n] := by simp [bools]
theorem ints_take (l : List Int) (n : Nat) : (ints l).take n = ints (l.take n) := by simp [ints]
theorem ints_drop (l : List Int) (n : Nat) : (ints l).drop n = ints (l.drop n) := by simp [ints]
theorem words_take (l : List Int) (n : Nat) : (words l).take n = words (l.take n) := by simp [words]
theorem words_drop (l : List Int) (n : Nat) : (words l).drop n = words (l.drop n) := by simp [words]

/-- The cells of a row of ints that the call owns. -/
abbrev rints (l : List Int) : List (List AV) := pcells (ints l)
abbrev rwords (l : List Int) : List (List AV) := pcells (words l)

@[simp] theorem pcells_length (l : List (List PV)) : (pcells l).length = l.length := by simp [pcells]
@[simp] theorem pcells_get (l : List (List PV)) (i : Nat) : (pcells l)[i]? = (l[i]?).map fun e => e.map AV.p := by simp [pcells]
theorem pcells_set (l : List (List PV)) (i : Nat) (e : List PV) : (pcells l).set i (e.map AV.p) = pcells (l.set i e) := by simp [pcells, List.map_set]
theorem rints_set (l : List Int) (i : Nat) (x : Int) : (pcells (ints l)).set i [.p (.v (.int .i64 x))] = pcells (ints (l.set i x)) := by
  rw [show ints (l.set i x) = (ints l).set i [pi x] by simp [ints, List.map_set], ← pcells_set]; rfl
theorem rwords_set (l : List Int) (i : Nat) (x : Int) : (pcells (words l)).set i [.p (.v (.int .u64 x))] = pcells (words (l.set i x)) := by
  rw [show words (l.set i x) = (words l).set i [pu x] by simp [words, List.map_set], ← pcells_set]; rfl
theorem rints_app (l : List Int) (x : Int) : pcells (ints l) ++ [[AV.p (.v (.int .i64 x))]] = pcells (ints (l ++ [x])) := by simp [pcells, ints]
theorem rwords_app (l : List Int) (x : Int) : pcells (words l) ++ [[AV.p (.v (.int .u64 x))]] = pcells (words (l ++ [x])) := by simp [pcells, words]
theorem rints_zero (n : Nat) : List.replicate n [AV.p (.v (.int .i64 0))] = pcells (ints (List.replicate n 0)) := by simp [pcells, ints]
theorem rwords_zero (n : Nat) : List.replicate n [AV.p (.v (.int .u64 0))] = pcells (words (List.replicate n 0)) := by simp [pcells, words]

theorem convE_self {D : Nat → Prop} (es : List (List PV)) : convE D noA (pcells es) (pcells es) := by
  refine convE_self_of ?_
  rw [flat_pcells]
  generalize es.flatten = l
  induction l with
  | nil => simp [convL]
  | cons x l ih => simp only [List.map_cons, convL]; exact ⟨by simp [conv], ih⟩

@[simp] theorem convE_pcells {D : Nat → Prop} (es : List (List PV)) : convE D noA (pcells es) (pcells es) = True := by simp only [convE_self]

theorem nil_rel {G : Gh} {sz : Nat} {v : Value} (h : Rel G (.p (.v (.slice none 0 0))) v) : Rel G (.p (.sl sz [])) v := by
  simp only [Rel, PRel] at h ⊢
  subst h
  exact ⟨none, 0, 0, rfl, rfl, Nat.le_refl _, fun _ => rfl, .inl trivial⟩

theorem WeakL.nil {F h h' : AHeap} {xs : List AV} {sz : Nat} (H : WeakL F xs h [.p (.v (.slice none 0 0))] h') : WeakL F xs h [.p (.sl sz [])] h' := by
  intro G0 G w vs ha hl hh hr
  obtain ⟨G', l', h2, r2, k2⟩ := H G0 G w vs ha hl hh hr
  refine ⟨G', l', h2, ?_, k2⟩
  cases vs with
  | nil => simp [RelL] at r2
  | cons v vs => simp only [RelL] at r2 ⊢; exact ⟨nil_rel r2.1, r2.2⟩

section
variable {P : Program} {N : Nat} {F : AHeap} {Q : SPost} {t : Slots} {L : Locs} {n : Nat}

/-- A call of a function that leaves memory as it was. -/
theorem ss_pure {ops rest : List Oper} {o : Oper} {c : Call} {f : FuncId} {args : List AV} {v : AV} (hc : o.op = .call c) (hg : o.guard = none) (hf : fits N o.dst = true) (hx : Is (acallee t c) (some (f, args))) (hp' : callable P f = true) (HC : Pure P f args v)
    (H : SS P N F ops Q rest (aput t o.dst v) L n) : SS P N F ops Q (o :: rest) t L n :=
  ss_call hc hg hf hx hp' (R := fun r => r = v) (fun hfr => HC (hp F L) n (fun k hk => hfr k hk)) fun r e => by rw [e]; exact H

theorem pure_of {f : FuncId} {fn : Func} {c : Code} {args : List AV} {v : AV} {N : Nat} (hf : P.funcs[f]? = some fn) (hb : fn.body = some c) (hN : fn.ntmps = N) (hl : args.length ≤ N)
    (H : ∀ F n, Fresh F [] n → (∀ k, F (n + k) = none) → F n = none → SW P N F c (send P F fn.results.toList (fun r h' => h' = F ∧ r = v)) (argSlots 0 args) [] n) : Pure P f args v :=
  fun F n hF => acalls_sw hf hb hN hl hF (H F n hF (fun k => hF (n + k) (by omega)) (hF n (Nat.le_refl _)))

theorem fresh_of {F : AHeap} {n : Nat} (hF : Fresh F [] n) {L : Locs} {m : Nat} (hm : n ≤ m) (hL : ∀ p ∈ L, p.1 < m) : Fresh F L m := by
  intro k hk
  rw [hp_ne]
  · exact hF k (by omega)
  · intro p hp e
    have := hL p hp
    omega

end

section
variable {P : Program} {F : AHeap} {t : Slots} {L : Locs} {n : Nat}

theorem frzA_own {id ver sz i v off len : Nat} {es : List (List PV)} {y : AV} : frzA id ver sz es (.own i v off len) y = (i = id ∧ v = ver ∧ y = .p (.sl sz ((es.drop off).take len))) := by
  apply propext
  constructor
  · rintro ⟨o, l, h, e⟩; cases h; exact ⟨rfl, rfl, e⟩
  · rintro ⟨rfl, rfl, e⟩; exact ⟨off, len, rfl, e⟩
theorem frzA_p {id ver sz : Nat} {es : List (List PV)} {x : PV} {y : AV} : frzA id ver sz es (.p x) y = False := by
  apply propext
  constructor
  · rintro ⟨o, l, h, e⟩; cases h
  · exact False.elim

/-- The end: a row of the call's own is handed back. -/
theorem end_own {rs : List ResultVar} {R : AV → AHeap → Prop} {id ver len sz : Nat} {e : TypeId} {es : List (List PV)} {ro : List (List AV)} (hr : Is (ares P t (hp F L) rs) (some (.own id ver 0 len))) (hk : Is (hp F L id) (some (.row ver e sz ro)))
    (he : ro = pcells es) (hl : len = es.length) (hid : F id = none) (hs : shed F [] L) (H : R (.p (.sl sz es)) F) : send P F rs R .ret t L n := by
  subst he hl
  refine end_ret hr (fun _ => weak_frozen (es := es) hk hid ?_ hs) H
  simp only [conv, frzA_own, List.drop_zero, List.take_length]
  exact .inr (.inl ⟨trivial, trivial, trivial⟩)

/-- The end: nil is handed back. -/
theorem end_nil {rs : List ResultVar} {R : AV → AHeap → Prop} {sz : Nat} (hr : Is (ares P t (hp F L) rs) (some (.p (.v (.slice none 0 0))))) (hs : shed F [] L) (H : R (.p (.sl sz [])) F) : send P F rs R .ret t L n :=
  end_ret hr (fun _ => WeakL.nil (weak_plain (by simp [conv]) hs)) H

/-- The end: a plain value is handed back. -/
theorem end_val {rs : List ResultVar} {R : AV → AHeap → Prop} {x : PV} (hr : Is (ares P t (hp F L) rs) (some (.p x))) (hs : shed F [] L) (H : R (.p x) F) : send P F rs R .ret t L n :=
  end_ret hr (fun _ => weak_plain (by simp [conv]) hs) H
end

/-- What is left of a region, all of it. -/
theorem ss_all {P : Program} {N : Nat} {F : AHeap} {Q : SPost} {t : Slots} {L : Locs} {n : Nat} {ops l : List Oper} {t' : Slots} {L' : Locs} {n' : Nat} (h : Is (runL P N F ops l (some (t, L, n))) (some (t', L', n'))) (H : Q .normal t' L' n') : SS P N F ops Q l t L n :=
  ss_run (rest := []) (List.append_nil l).symm h (ss_nil H)
theorem ds_all {P : Program} {N : Nat} {F : AHeap} {Q : SPost} {t : Slots} {L : Locs} {n : Nat} {ops l : List Oper} {us : List (Nat × Nat)} {dn : List Ef} {t' : Slots} {L' : Locs} {n' : Nat} {d : List Ef}
    (h : Is (runE P N F ops l (some ((t, L, n), []))) (some ((t', L', n'), d))) (hd : disAll (dn ++ d) us) (H : Q .normal t' L' n') : DS P N F ops us Q dn l t L n :=
  ds_run (rest := []) (List.append_nil l).symm h (ds_nil hd H)

/-- A loop, with what holds of the state at its head. -/
theorem sw_loopI {P : Program} {N : Nat} {F : AHeap} {Q : SPost} {t : Slots} {L : Locs} {n : Nat} {c : Code} {α : Type} (T : α → Slots) (H : α → Locs) (k : α → Nat) (I : α → Prop) (μ : α → Nat) (x0 : α) (h0 : I x0)
    (start : Fresh F L n → Weak N F t (hp F L) (T x0) (hp F (H x0))) (hfr : ∀ x, Fresh F (H x) (k x))
    (round : ∀ x, I x → SW P N F c (sthen (fun t' L' n' => ∃ y, I y ∧ μ y < μ x ∧ Weak N F t' (hp F L') (T y) (hp F (H y))) Q) (T x) (H x) (k x)) : SW P N F (.loop c) Q t L n :=
  sw_loop (α := { x : α // I x }) (fun x => T x.1) (fun x => H x.1) (fun x => k x.1) (fun x => μ x.1) ⟨x0, h0⟩ start (fun x => hfr x.1) fun x => sw_mono (round x.1 x.2) fun e t' L' n' q => by
    cases e with
    | normal => obtain ⟨y, h1, h2, h3⟩ := q; exact ⟨⟨y, h1⟩, h3, h2⟩
    | _ => exact q

theorem i64_in {x : Int} (h : -9223372036854775808 ≤ x ∧ x < 9223372036854775808) : IntKind.i64.wrap x = x := by
  rw [IntKind.wrap_i64]; omega

theorem zap_int {n : Nat} : (n : Int).toNat = n := Int.toNat_natCast n

end Go.AM

/- Opening the arguments of a claim: what the reading tells, as abstract values. -/
namespace Go.AM
set_option linter.unusedVariables false
set_option linter.unusedSimpArgs false
open Go Go.RowKit Go.ChangeShapes Go.WideShapes Go.Deep
set_option linter.unusedSectionVars false
variable [Glob]

/-- The shape of a type: whole numbers, bools, strings, slices (elements of n cells), structs and arrays. -/
inductive Sh where
  | int (k : IntKind)
  | bool
  | str
  | sl (n : Nat) (e : Sh)
  | agg (fs : List Sh)

mutual
def Sh.size : Sh → Nat
  | .agg fs => Sh.sizes fs
  | .int _ | .bool | .str | .sl _ _ => 1
def Sh.sizes : List Sh → Nat
  | [] => 0
  | f :: fs => f.size + Sh.sizes fs
end

mutual
def Wt : Sh → List PV → Prop
  | .int k, cs => ∃ n, cs = [.v (.int k n)] ∧ (Lit.int k n).wf = true
  | .bool, cs => ∃ b, cs = [.v (.bool b)]
  | .str, cs => ∃ s, cs = [.v (.string s)] ∧ s.size ≤ maxLen
  | .sl n e, cs => ∃ es, cs = [.sl n es] ∧ ∀ x ∈ es, Wt e x
  | .agg fs, cs => WtL fs cs
def WtL : List Sh → List PV → Prop
  | [], cs => cs = []
  | f :: fs, cs => ∃ a b, cs = a ++ b ∧ Wt f a ∧ WtL fs b
end

def partsOf (P : Program) (t : TypeId) : Option (List (Nat × TypeId)) :=
  match P.underlying t with
  | some (.struct l) => some (l.toList.map fun f => (f.offset, f.type))
  | some (.array n e) => some ((List.range n).map fun i => (i * P.cellsOf e, e))
  | _ => none

mutual
def shOk (P : Program) : Sh → TypeId → Bool
  | .int k, t => match P.underlying t with | some (.int k') => decide (k' = k) | _ => false
  | .bool, t => match P.underlying t with | some .bool => true | _ => false
  | .str, t => match P.underlying t with | some .string => true | _ => false
  | .sl n e, t => match P.underlying t with | some (.slice et) => P.cellsOf et == n && decide (0 < n) && e.size == n && shOk P e et | _ => false
  | .agg fs, t => P.cellsOf t == Sh.sizes fs && match partsOf P t with | some l => shOks P fs 0 l | none => false
def shOks (P : Program) : List Sh → Nat → List (Nat × TypeId) → Bool
  | [], _, [] => true
  | f :: fs, o, (o', t) :: r => o' == o && P.cellsOf t == f.size && shOk P f t && shOks P fs (o + f.size) r
  | [], _, _ :: _ => false
  | _ :: _, _, [] => false
end

/-- The memory at the start, as the ghost has it. -/
def mem (w : World) : Nat → Nat → Option Value := fun b o => (w.cell? ⟨b, o, none⟩).filter fun v => v.oneCell'

theorem mem_of {w : World} {b o : Nat} {v : Value} (h : w.cell? ⟨b, o, none⟩ = some v) (h1 : v.oneCell' = true) : mem w b o = some v := by
  unfold mem
  rw [h]
  exact Option.filter_eq_some_iff.2 ⟨rfl, h1⟩
theorem mem_to {w : World} {b o : Nat} {v : Value} (h : mem w b o = some v) : w.cell? ⟨b, o, none⟩ = some v ∧ v.oneCell' = true := by
  exact Option.filter_eq_some_iff.1 h

def PRelL (M : Nat → Nat → Option Value) : List PV → List Value → Prop
  | [], [] => True
  | p :: ps, v :: vs => PRel M p v ∧ v.oneCell' = true ∧ PRelL M ps vs
  | [], _ :: _ => False
  | _ :: _, [] => False

theorem PRelL.append {M : Nat → Nat → Option Value} : ∀ {ps qs : List PV} {vs us : List Value}, PRelL M ps vs → PRelL M qs us → PRelL M (ps ++ qs) (vs ++ us)
  | [], _, [], _, _, h => h
  | p :: ps, _, v :: vs, _, h, k => by
    simp only [PRelL, List.cons_append] at h ⊢
    exact ⟨h.1, h.2.1, PRelL.append h.2.2 k⟩
  | [], _, _ :: _, _, h, _ => by simp [PRelL] at h
  | _ :: _, _, [], _, h, _ => by simp [PRelL] at h

theorem PRelL.length {M : Nat → Nat → Option Value} : ∀ {ps : List PV} {vs : List Value}, PRelL M ps vs → ps.length = vs.length
  | [], [], _ => rfl
  | p :: ps, v :: vs, h => by simp only [PRelL] at h; simp [PRelL.length h.2.2]
  | [], _ :: _, h => by simp [PRelL] at h
  | _ :: _, [], h => by simp [PRelL] at h

theorem PRelL.rel {G : Gh} : ∀ {ps : List PV} {vs : List Value}, PRelL G.M ps vs → RelL G (ps.map AV.p) vs
  | [], [], _ => by simp [RelL]
  | p :: ps, v :: vs, h => by
    simp only [PRelL] at h
    simp only [List.map_cons, RelL, Rel]
    exact ⟨h.1, PRelL.rel h.2.2⟩
  | [], _ :: _, h => by simp [PRelL] at h
  | _ :: _, [], h => by simp [PRelL] at h

theorem PRelL.cells {w : World} {b : Nat} : ∀ {ps : List PV} {vs : List Value} {o : Nat}, PRelL (mem w) ps vs → (∀ i, i < vs.length → w.cell? ⟨b, o + i, none⟩ = vs[i]?) → PCells (mem w) b o ps
  | [], [], _, _, _ => by simp [PCells]
  | p :: ps, v :: vs, o, h, k => by
    simp only [PRelL] at h
    simp only [PCells]
    refine ⟨⟨v, mem_of (by simpa using k 0 (by simp)) h.2.1, h.1⟩, PRelL.cells h.2.2 fun i hi => ?_⟩
    have := k (i + 1) (by simp; omega)
    rw [show o + 1 + i = o + (i + 1) by omega]
    simpa using this
  | [], _ :: _, _, h, _ => by simp [PRelL] at h
  | _ :: _, [], _, h, _ => by simp [PRelL] at h

theorem PEls.of {M : Nat → Nat → Option Value} {b sz : Nat} : ∀ {es : List (List PV)} {o : Nat}, (∀ i e, es[i]? = some e → e.length = sz ∧ PCells M b (o + i * sz) e) → PEls M b o sz es
  | [], _, _ => by simp [PEls]
  | e :: es, o, h => by
    simp only [PEls]
    obtain ⟨h1, h2⟩ := h 0 e rfl
    refine ⟨h1, by simpa using h2, PEls.of fun i e' he => ?_⟩
    have := h (i + 1) e' (by simpa using he)
    rw [show o + sz + i * sz = o + (i + 1) * sz by rw [Nat.add_mul]; omega]
    exact this

theorem list_choose {α : Type} {n : Nat} {p : Nat → α → Prop} (h : ∀ i, i < n → ∃ a, p i a) : ∃ l : List α, l.length = n ∧ ∀ i a, l[i]? = some a → p i a := by
  induction n with
  | zero => exact ⟨[], rfl, by simp⟩
  | succ n ih =>
    obtain ⟨l, hl, hp⟩ := ih fun i hi => h i (by omega)
    obtain ⟨a, ha⟩ := h n (by omega)
    refine ⟨l ++ [a], by simp [hl], fun i x hx => ?_⟩
    rcases Nat.lt_or_ge i l.length with hi | hi
    · rw [List.getElem?_append_left hi] at hx
      exact hp i x hx
    · rw [List.getElem?_append_right hi] at hx
      have : i - l.length = 0 := by
        rcases Nat.eq_zero_or_pos (i - l.length) with h0 | h0
        · exact h0
        · rw [List.getElem?_eq_none (by simp; omega)] at hx; cases hx
      rw [this] at hx
      cases hx
      rw [show i = n by omega]
      exact ha

section
variable {H : Type} {enc : TypeId × Value → H} {P : Program} {w : World} {base : Nat} {spare : Nat → Bool} {held : Bool}

theorem trod_parts {t : TypeId} {fuel : Nat} {cs : List Value} {x : DataW H × List MemPlace} {l : List (Nat × TypeId)} (hp : partsOf P t = some l) (h : DataW.trod enc P w base spare held fuel t cs = some x) :
    cs.length = P.cellsOf t ∧ ∃ m, ∀ (i : Nat) (p : Nat × TypeId), l[i]? = some p → ∃ y, DataW.trod enc P w base spare held m p.2 ((cs.drop p.1).take (P.cellsOf p.2)) = some y := by
  unfold partsOf at hp
  split at hp
  · rename_i fs hu
    cases hp
    obtain ⟨xs, n, _, _, h1, h2, h3⟩ := DataW.trod_struct hu h
    refine ⟨h1, n, fun i p hi => ?_⟩
    simp only [List.getElem?_map, Array.getElem?_toList, Option.map_eq_some_iff] at hi
    obtain ⟨f, hf, rfl⟩ := hi
    have hlt : i < xs.length := by rw [h2]; exact (Array.getElem?_eq_some_iff.1 hf).1
    exact ⟨xs[i], by rw [h3 i f hf]; exact List.getElem?_eq_getElem hlt⟩
  · rename_i n e hu
    cases hp
    obtain ⟨xs, m, _, _, h1, h2, h3⟩ := DataW.trod_array hu h
    refine ⟨h1, m, fun i p hi => ?_⟩
    simp only [List.getElem?_map, Option.map_eq_some_iff] at hi
    obtain ⟨j, hj, rfl⟩ := hi
    obtain ⟨hlt, e1⟩ := List.getElem?_eq_some_iff.1 hj
    simp at hlt e1
    subst e1
    exact ⟨xs[i]'(by omega), by rw [h3 i hlt]; exact List.getElem?_eq_getElem (by omega)⟩
  · cases hp

mutual
theorem trod_wt : ∀ (sh : Sh) (t : TypeId) (fuel : Nat) (cs : List Value) (x : DataW H × List MemPlace), shOk P sh t = true → DataW.trod enc P w base spare held fuel t cs = some x →
    ∃ ps, Wt sh ps ∧ PRelL (mem w) ps cs ∧ cs.length = sh.size
  | .int k, t, fuel, cs, x, hs, h => by
    simp only [shOk] at hs
    split at hs
    · rename_i k' hu
      simp only [decide_eq_true_eq] at hs
      subst hs
      obtain ⟨n, rfl, _, hw⟩ := DataW.trod_int hu h
      exact ⟨[.v (.int k' n)], by simp only [Wt]; exact ⟨n, rfl, hw⟩, by simp [PRelL, PRel, Value.oneCell'], by simp [Sh.size]⟩
    · cases hs
  | .bool, t, fuel, cs, x, hs, h => by
    simp only [shOk] at hs
    split at hs
    · rename_i hu
      obtain ⟨b, rfl, _⟩ := DataW.trod_bool hu h
      exact ⟨[.v (.bool b)], by simp only [Wt]; exact ⟨b, rfl⟩, by simp [PRelL, PRel, Value.oneCell'], by simp [Sh.size]⟩
    · cases hs
  | .str, t, fuel, cs, x, hs, h => by
    simp only [shOk] at hs
    split at hs
    · rename_i hu
      obtain ⟨s, rfl, _, hm⟩ := DataW.trod_string hu h
      exact ⟨[.v (.string s)], by simp only [Wt]; exact ⟨s, rfl, hm⟩, by simp [PRelL, PRel, Value.oneCell'], by simp [Sh.size]⟩
    · cases hs
  | .sl n e, t, fuel, cs, x, hs, h => by
    simp only [shOk] at hs
    split at hs
    · rename_i et hu
      simp only [Bool.and_eq_true, beq_iff_eq, decide_eq_true_eq] at hs
      obtain ⟨⟨⟨h1, h2⟩, h3⟩, h4⟩ := hs
      rcases open_slice hu h with ⟨rfl, _⟩ | ⟨a, len, cap, m, k, D, Pl, rfl, hb, hl, hm, hmm, _, hx⟩
      · exact ⟨[.sl n []], by simp only [Wt]; exact ⟨[], rfl, by simp⟩, by simp only [PRelL, PRel]; exact ⟨⟨none, 0, 0, rfl, rfl, Nat.le_refl _, fun _ => rfl, .inl trivial⟩, rfl, trivial⟩, by simp [Sh.size]⟩
      · have hlm : len ≤ m := by rw [hmm]; split <;> omega
        obtain ⟨b, o, sp⟩ := a
        rcases Nat.eq_zero_or_pos len with h0 | h0
        · subst h0
          exact ⟨[.sl n []], by simp only [Wt]; exact ⟨[], rfl, by simp⟩, by simp only [PRelL, PRel]; exact ⟨⟨some ⟨b, o, sp⟩, 0, cap, rfl, rfl, hl, by simp, .inl trivial⟩, rfl, trivial⟩, by simp [Sh.size]⟩
        have hsp : sp = none := by
          obtain ⟨cs', c1, c2⟩ := hx 0 (by omega)
          obtain ⟨_, q1, q2⟩ := World.cells?_some c1
          rw [h1] at q1 q2
          have hc : 0 < cs'.length := by omega
          have := q2 0 (by omega)
          rw [List.getElem?_eq_getElem hc] at this
          have := World.cell?_spot this
          simpa [Addr.add] using this
        subst hsp
        obtain ⟨es, hlen, hes⟩ := list_choose (n := len) (p := fun i ps => Wt e ps ∧ ps.length = n ∧ PCells (mem w) b (o + i * n) ps) (fun i hi => by
          obtain ⟨cs', c1, c2⟩ := hx i (by omega)
          obtain ⟨ps, p1, p2, p3⟩ := trod_wt e et k cs' _ h4 c2
          obtain ⟨_, q1, q2⟩ := World.cells?_some c1
          rw [h1] at q1 q2
          refine ⟨ps, p1, by rw [PRelL.length p2, q1], PRelL.cells p2 fun j hj => ?_⟩
          have := q2 j (by omega)
          rw [add_plain, add_plain] at this
          rw [← this])
        have hwt : ∀ x ∈ es, Wt e x := by
          intro x hx
          obtain ⟨i, hi⟩ := List.getElem?_of_mem hx
          exact (hes i x hi).1
        refine ⟨[.sl n es], by simp only [Wt]; exact ⟨es, rfl, hwt⟩, ?_, by simp [Sh.size]⟩
        · simp only [PRelL, PRel]
          exact ⟨⟨some ⟨b, o, none⟩, len, cap, rfl, hlen.symm, hl, by simp, .inr ⟨b, o, rfl, PEls.of fun i x hx => (hes i x hx).2⟩⟩, rfl, trivial⟩
    · cases hs
  | .agg fs, t, fuel, cs, x, hs, h => by
    simp only [shOk, Bool.and_eq_true, beq_iff_eq] at hs
    obtain ⟨h1, hs⟩ := hs
    split at hs
    · rename_i l hl
      obtain ⟨h2, m, h3⟩ := trod_parts hl h
      obtain ⟨ps, p1, p2⟩ := trod_wts fs 0 l m cs hs (by rw [h2, h1]; omega) fun p hp => by
        obtain ⟨i, hi⟩ := List.getElem?_of_mem hp
        exact h3 i p hi
      exact ⟨ps, by simpa only [Wt] using p1, by simpa using p2, by rw [h2, h1]; simp [Sh.size]⟩
    · cases hs
theorem trod_wts : ∀ (fs : List Sh) (o : Nat) (l : List (Nat × TypeId)) (m : Nat) (cs : List Value), shOks P fs o l = true → cs.length = o + Sh.sizes fs →
    (∀ p ∈ l, ∃ y, DataW.trod enc P w base spare held m p.2 ((cs.drop p.1).take (P.cellsOf p.2)) = some y) → ∃ ps, WtL fs ps ∧ PRelL (mem w) ps (cs.drop o)
  | [], o, [], m, cs, _, hl, _ => ⟨[], by simp [WtL], by rw [List.drop_eq_nil_of_le (by simp [Sh.sizes] at hl; omega)]; simp [PRelL]⟩
  | f :: fs, o, (o', t) :: r, m, cs, hs, hl, h => by
    simp only [shOks, Bool.and_eq_true, beq_iff_eq] at hs
    obtain ⟨⟨⟨rfl, h1⟩, h2⟩, h3⟩ := hs
    obtain ⟨y, hy⟩ := h (o', t) (by simp)
    simp only at hy
    obtain ⟨ps, p1, p2, p3⟩ := trod_wt f t m _ y h2 hy
    simp only [Sh.sizes] at hl
    obtain ⟨qs, q1, q2⟩ := trod_wts fs (o' + f.size) r m cs h3 (by omega) fun p hp => h p (by simp [hp])
    refine ⟨ps ++ qs, by simp only [WtL]; exact ⟨ps, qs, rfl, p1, q1⟩, ?_⟩
    have e : cs.drop o' = (cs.drop o').take (P.cellsOf t) ++ cs.drop (o' + f.size) := by
      rw [h1, ← List.drop_drop, List.take_append_drop]
    rw [e]
    exact PRelL.append p2 q2
  | [], _, _ :: _, _, _, hs, _, _ => by simp [shOks] at hs
  | _ :: _, _, [], _, _, hs, _, _ => by simp [shOks] at hs
end

/-- An argument as an abstract value. -/
def argOf : Sh → List PV → AV
  | .agg _, ps => .agg (ps.map AV.p)
  | _, p :: _ => .p p
  | _, [] => .junk

theorem okWide_agg {r : Reach} {b0 : Nat} {t : TypeId} {v : Value} {l : List (Nat × TypeId)} (hp : partsOf P t = some l) (h : Value.okWide P w r b0 t v) : ∃ cs, v = .agg cs := by
  unfold partsOf at hp
  split at hp
  · rename_i fs hu
    simp only [Value.okWide, hu] at h
    obtain ⟨cs, e, _⟩ := h
    exact ⟨cs, e⟩
  · rename_i n e hu
    simp only [Value.okWide, hu] at h
    obtain ⟨cs, e, _⟩ := h
    exact ⟨cs, e⟩
  · cases hp

theorem open_arg {r : Reach} {b0 : Nat} {sh : Sh} {t : TypeId} {v : Value} {d : DataW H} {ps : List MemPlace} {G : Gh} (hG : G.M = mem w) (hs : shOk P sh t = true) (hv : Value.okWide P w r b0 t v)
    (h : DataW.Trod enc P w base spare held t v d ps) : ∃ cs, Wt sh cs ∧ Rel G (argOf sh cs) v := by
  obtain ⟨fuel, hf⟩ := h
  obtain ⟨cs, c1, c2, c3⟩ := trod_wt sh t fuel _ _ hs hf
  refine ⟨cs, c1, ?_⟩
  rw [← hG] at c2
  have key : v.cells.toList = [v] → ∀ p, cs = [p] → Rel G (.p p) v := by
    intro e p hp
    rw [e, hp] at c2
    simp only [PRelL] at c2
    simpa only [Rel] using c2.1
  cases sh with
  | int k =>
    simp only [shOk] at hs
    split at hs
    · rename_i k' hu
      obtain ⟨n, rfl⟩ := okWide_int hu hv
      simp only [Wt] at c1
      obtain ⟨m, rfl, _⟩ := c1
      exact key (by simp [Value.cells]) _ rfl
    · cases hs
  | bool =>
    simp only [shOk] at hs
    split at hs
    · rename_i hu
      obtain ⟨n, rfl⟩ := okWide_bool hu hv
      simp only [Wt] at c1
      obtain ⟨m, rfl⟩ := c1
      exact key (by simp [Value.cells]) _ rfl
    · cases hs
  | str =>
    simp only [shOk] at hs
    split at hs
    · rename_i hu
      obtain ⟨n, rfl⟩ := okWide_string hu hv
      simp only [Wt] at c1
      obtain ⟨m, rfl, _⟩ := c1
      exact key (by simp [Value.cells]) _ rfl
    · cases hs
  | sl n e =>
    simp only [shOk] at hs
    split at hs
    · rename_i et hu
      obtain ⟨a, len, cap, rfl⟩ := okWide_slice hu hv
      simp only [Wt] at c1
      obtain ⟨m, rfl, _⟩ := c1
      exact key (by simp [Value.cells]) _ rfl
    · cases hs
  | agg fs =>
    simp only [shOk, Bool.and_eq_true] at hs
    obtain ⟨_, hs⟩ := hs
    split at hs
    · rename_i l hl
      obtain ⟨vs, rfl⟩ := okWide_agg hl hv
      simp only [argOf, Rel]
      refine ⟨vs, rfl, ?_⟩
      have := PRelL.rel c2
      simpa [Value.cells] using this
    · cases hs

/-- The ghost at the start of a claim. -/
def gh0 (w : World) : Gh := { M := mem w, loc := fun _ _ => none, w0 := w, mks := [], out := [] }

theorem hrel0 (w : World) (hg : ∀ p ∈ Glob.tab, PCells (mem w) p.1 0 p.2) : HRel (gh0 w) (fun _ => none) w where
  below := Below.refl _ _
  imm := fun _ _ _ h => mem_to h
  blk := fun _ _ h => nomatch h
  sep := fun _ _ _ _ _ _ h => nomatch h
  dom := fun _ _ _ h => nomatch h
  top := fun _ _ _ h => nomatch h
  glb := hg
  mks := fun _ h => nomatch h
  outs := fun _ h => nomatch h
  apt := fun _ h => nomatch h

/-- The law's end: true, and nothing old was written. -/
theorem law_calls {f : FuncId} {args : List AV} {vs : List Value} (h : Pure P f args (ab true)) (hr : RelL (gh0 w) args vs) (hg : ∀ p ∈ Glob.tab, PCells (mem w) p.1 0 p.2) :
    Calls P f vs.toArray w fun e w' => e = .returned (.bool true) ∧ Below w.heap.size w w' := by
  refine (h (fun _ => none) 0 (fun k _ => rfl) (gh0 w) w vs (hrel0 w hg) hr).mono ?_
  rintro e w' ⟨v, G', r, h', rfl, hl, hh, hv, rfl, rfl⟩
  simp only [Rel, PRel] at hv
  subst hv
  refine ⟨rfl, ?_⟩
  have := hh.below
  rw [hl.w] at this
  exact this
end

theorem map_of {α β : Type} {f : α → β} {R : α → Prop} : ∀ {es : List β}, (∀ x ∈ es, ∃ a, R a ∧ x = f a) → ∃ l : List α, es = l.map f ∧ ∀ a ∈ l, R a
  | [], _ => ⟨[], rfl, by simp⟩
  | e :: es, h => by
    obtain ⟨a, ha, rfl⟩ := h e (by simp)
    obtain ⟨l, rfl, hl⟩ := map_of (es := es) fun x hx => h x (by simp [hx])
    exact ⟨a :: l, rfl, by simpa using ⟨ha, hl⟩⟩

end Go.AM

/- More short words. -/
namespace Go.AM
set_option linter.unusedVariables false
set_option linter.unusedSimpArgs false
open Go Go.RowKit
set_option linter.unusedSectionVars false
variable [Glob]

section
variable {P : Program} {N : Nat} {F : AHeap} {Q : SPost} {t : Slots} {L : Locs} {n : Nat}

/-- One operation that is no call. -/
theorem ss_op {ops rest : List Oper} {o : Oper} {t' : Slots} {L' : Locs} {n' : Nat} (hc : isCall o.op = false) (h : Is (step1 P N F ops o (some (t, L, n))) (some (t', L', n'))) (H : SS P N F ops Q rest t' L' n') : SS P N F ops Q (o :: rest) t L n :=
  ss_step1 h H

/-- A call behind a guard that lets it through. -/
theorem ss_pure_g {ops rest : List Oper} {o : Oper} {c : Call} {f : FuncId} {args : List AV} {v : AV} (hc : o.op = .call c) (hw : Is (awanted ops t o) (some true)) (hf : fits N o.dst = true) (hx : Is (acallee t c) (some (f, args))) (hp' : callable P f = true) (HC : Pure P f args v)
    (H : SS P N F ops Q rest (aput t o.dst v) L n) : SS P N F ops Q (o :: rest) t L n :=
  fun hfr => aseq_call hc hw hf hx hp' (HC (hp F L) n (fun k hk => hfr k hk)) fun r h' ⟨e, hr⟩ => by rw [e, hr]; exact H hfr

/-- An operation whose guard holds it back. -/
theorem ss_off {ops rest : List Oper} {o : Oper} (hw : Is (awanted ops t o) (some false)) (hf : fits N o.dst = true) (H : SS P N F ops Q rest (aput t o.dst (.p (.v undef))) L n) : SS P N F ops Q (o :: rest) t L n :=
  ss_step1 (by simp only [step1]; rw [show awanted ops t o = some false from hw]; simp only [fin1]; rw [if_pos hf]) H

theorem ds_pure {ops : List Oper} {us : List (Nat × Nat)} {dn : List Ef} {rest : List Oper} {o : Oper} {c : Call} {f : FuncId} {args : List AV} {v : AV} (hc : o.op = .call c) (hg : o.guard = none) (hf : fits N o.dst = true) (hx : Is (acallee t c) (some (f, args))) (hp' : callable P f = true) (HC : Pure P f args v)
    (H : DS P N F ops us Q (dn ++ [⟨true, [], [], v⟩]) rest (aput t o.dst v) L n) : DS P N F ops us Q dn (o :: rest) t L n :=
  ds_call hc hg hf hx hp' HC.does (by rw [hc]; simp only [acallee, Is] at hx; unfold isCall; split <;> simp_all) (by simp) (by simp) (Nat.le_refl _) H

/-- One operation of a drawn region. -/
theorem ds_op {ops : List Oper} {us : List (Nat × Nat)} {dn : List Ef} {rest : List Oper} {o : Oper} {t' : Slots} {L' : Locs} {n' : Nat} {d : List Ef} (hc : isCall o.op = false) (h : Is (runE P N F ops [o] (some ((t, L, n), []))) (some ((t', L', n'), d)))
    (H : DS P N F ops us Q (dn ++ d) rest t' L' n') : DS P N F ops us Q dn (o :: rest) t L n :=
  ds_run (l := [o]) rfl h H
end

/-- Where nobody writes. -/
theorem disAll_quiet {es : List Ef} : ∀ {us : List (Nat × Nat)}, (∀ e ∈ es, e.wr = []) → disAll es us
  | [], _ => trivial
  | p :: r, h => by
    simp only [disAll]
    refine ⟨?_, disAll_quiet h⟩
    split
    · rename_i x y hx hy
      have h1 : wids x = [] := by simp [wids, h x (List.mem_of_getElem? hx)]
      have h2 : wids y = [] := by simp [wids, h y (List.mem_of_getElem? hy)]
      simp only [EDisj, h1, h2]
      simp
    · trivial

theorem drop_cons {α : Type} {l : List α} {k : Nat} {x : α} (h : l[k]? = some x) : l.drop k = x :: l.drop (k + 1) := by
  obtain ⟨h1, h2⟩ := List.getElem?_eq_some_iff.1 h
  rw [← h2]; exact List.drop_eq_getElem_cons h1

theorem take_snoc {α : Type} {l : List α} {k : Nat} {x : α} (h : l[k]? = some x) : l.take (k + 1) = l.take k ++ [x] := by
  rw [List.take_add_one, h]; rfl

theorem get_lt {α : Type} {l : List α} {k : Nat} (h : k < l.length) : ∃ x, l[k]? = some x := ⟨l[k], List.getElem?_eq_getElem h⟩

theorem wrap_succ {k n : Nat} (h : k < n) (hn : Small n) : IntKind.i64.wrap ((k : Int) + 1) = ((k + 1 : Nat) : Int) := by
  have := hn.lt
  rw [i64_in (by omega)]; simp

end Go.AM

/- Rows of rows of ints that the call owns. -/
namespace Go.AM
set_option linter.unusedVariables false
set_option linter.unusedSimpArgs false
open Go Go.RowKit
set_option linter.unusedSectionVars false
variable [Glob]

theorem keptB_of {F : AHeap} {L L' : List (Nat × Blk)} : ∀ {M : List (Nat × Blk)}, (∀ p ∈ M, hp F L p.1 = some p.2 ∧ convB (fun id => hp F L' id ≠ none) noA p.2 p.2) → keptB F L L' M
  | [], _ => trivial
  | q :: r, h => ⟨(h q (by simp)).1, (h q (by simp)).2, keptB_of fun p hp => h p (by simp [hp])⟩
theorem shed_of {F : AHeap} {L' : List (Nat × Blk)} : ∀ {M : List (Nat × Blk)}, (∀ p ∈ M, F p.1 = none ∨ p.1 ∈ L'.map (·.1)) → shed F L' M
  | [], _ => trivial
  | q :: r, h => ⟨h q (by simp), shed_of fun p hp => h p (by simp [hp])⟩

theorem weak_adopt_hp {N : Nat} {F : AHeap} {L L' : List (Nat × Blk)} {t t' : Slots} {id sz : Nat} {e : TypeId} (hn : hp F L id = none) (hi : hp F L' id = some (.row 0 e sz [])) (ht : convT (fun i => hp F L i ≠ none) (nilA id) t t')
    (hb : ∀ p ∈ L', p.1 ≠ id → ∃ k, hp F L p.1 = some k ∧ (p.2 = k ∨ convB (fun i => hp F L i ≠ none) (nilA id) k p.2)) (hL : ∀ p ∈ L, p.1 ∈ L'.map (·.1)) : Weak N F t (hp F L) t' (hp F L') := by
  refine weak_of_list (weak_adopt hn hi (convT_list ht) ?_ ?_)
  · intro i k' hne hk'
    rcases hp_mem hk' with ⟨p, hp', rfl, rfl⟩ | ⟨h1, h2⟩
    · exact hb p hp' hne
    · refine ⟨k', ?_, .inl rfl⟩
      rw [hp_ne fun p hp' e => ?_]
      · exact h1
      · subst e
        obtain ⟨q, hq, e⟩ := List.mem_map.1 (hL p hp')
        exact h2 q hq e
  · intro i hi'
    by_cases hF : F i = none
    · have : ∃ p ∈ L, p.1 = i := by
        cases hk : hp F L i with
        | none => exact absurd hk hi'
        | some k =>
          rcases hp_mem hk with ⟨p, hp', e, _⟩ | ⟨h1, _⟩
          · exact ⟨p, hp', e⟩
          · rw [hF] at h1; cases h1
      obtain ⟨p, hp', rfl⟩ := this
      obtain ⟨q, hq, e⟩ := List.mem_map.1 (hL p hp')
      exact hp_some (.inr ⟨q, hq, e⟩)
    · exact hp_some (.inl hF)

/-- The rows of ints number a + j, a + j + 1 .. -/
def nest (e : TypeId) (a : Nat) : List (List Int) → List (Nat × Blk)
  | [] => []
  | l :: r => (a, .row l.length e 1 (rints l)) :: nest e (a + 1) r
/-- The row that names them. -/
def rowE (a : Nat) : List (List Int) → List (List AV)
  | [] => []
  | l :: r => [.own a l.length 0 l.length] :: rowE (a + 1) r

theorem rowE_length (a : Nat) : ∀ (ls : List (List Int)), (rowE a ls).length = ls.length
  | [] => rfl
  | l :: r => by simp [rowE, rowE_length (a + 1) r]
theorem rowE_get {a : Nat} : ∀ {ls : List (List Int)} (j : Nat), (rowE a ls)[j]? = (ls[j]?).map fun l => [.own (a + j) l.length 0 l.length]
  | [], j => by simp [rowE]
  | l :: r, 0 => by simp [rowE]
  | l :: r, j + 1 => by simp only [rowE, List.getElem?_cons_succ]; rw [rowE_get j]; simp [Nat.add_assoc, Nat.add_comm 1 j]
theorem rowE_set {a : Nat} {x : List Int} : ∀ {ls : List (List Int)} (j : Nat), (rowE a ls).set j [.own (a + j) x.length 0 x.length] = rowE a (ls.set j x)
  | [], j => by simp [rowE]
  | l :: r, 0 => by simp [rowE]
  | l :: r, j + 1 => by simp only [rowE, List.set_cons_succ]; rw [← rowE_set (a := a + 1) j]; simp [Nat.add_assoc, Nat.add_comm 1 j]
theorem rowE_app {a : Nat} : ∀ {ls : List (List Int)}, rowE a (ls ++ [[]]) = rowE a ls ++ [[.own (a + ls.length) 0 0 0]]
  | [] => by simp [rowE]
  | l :: r => by simp only [rowE, List.cons_append]; rw [rowE_app]; simp [Nat.add_assoc, Nat.add_comm 1 r.length]

theorem nest_mem {e : TypeId} {a : Nat} : ∀ {ls : List (List Int)} {p : Nat × Blk}, p ∈ nest e a ls → ∃ j l, ls[j]? = some l ∧ p = (a + j, .row l.length e 1 (rints l))
  | [], p, h => by simp [nest] at h
  | l :: r, p, h => by
    simp only [nest, List.mem_cons] at h
    rcases h with rfl | h
    · exact ⟨0, l, rfl, rfl⟩
    · obtain ⟨j, l', h1, rfl⟩ := nest_mem h
      exact ⟨j + 1, l', by simpa using h1, by simp [Nat.add_assoc, Nat.add_comm 1 j]⟩
theorem nest_get {e : TypeId} {F : AHeap} {a : Nat} : ∀ {ls : List (List Int)} {j : Nat} {l : List Int}, ls[j]? = some l → hp F (nest e a ls) (a + j) = some (.row l.length e 1 (rints l))
  | [], j, l, h => by simp at h
  | x :: r, 0, l, h => by simp at h; subst h; simp [nest, hp]
  | x :: r, j + 1, l, h => by
    simp only [nest, hp]
    rw [if_neg (by omega), show a + (j + 1) = a + 1 + j by omega]
    exact nest_get (by simpa using h)
theorem nest_out {e : TypeId} {F : AHeap} {a : Nat} {ls : List (List Int)} {i : Nat} (h : i < a ∨ a + ls.length ≤ i) : hp F (nest e a ls) i = F i :=
  hp_ne fun p hp => by
    obtain ⟨j, l, h1, rfl⟩ := nest_mem hp
    have := (List.getElem?_eq_some_iff.1 h1).1
    simp only
    omega
theorem nest_key {e : TypeId} {a : Nat} {ls : List (List Int)} {j : Nat} {l : List Int} (h : ls[j]? = some l) : (a + j, Blk.row l.length e 1 (rints l)) ∈ nest e a ls := by
  induction ls generalizing a j with
  | nil => simp at h
  | cons x r ih =>
    cases j with
    | zero => simp at h; subst h; simp [nest]
    | succ j => simp only [nest, List.mem_cons]; right; have := ih (a := a + 1) (j := j) (by simpa using h); rwa [show a + 1 + j = a + (j + 1) by omega] at this

theorem convE_app {D : Nat → Prop} {A : AV → AV → Prop} : ∀ {xs ys us vs : List (List AV)}, convE D A xs ys → convE D A us vs → convE D A (xs ++ us) (ys ++ vs)
  | [], [], _, _, _, h => h
  | x :: xs, y :: ys, _, _, h, k => by simp only [List.cons_append, convE] at h ⊢; exact ⟨h.1, convE_app h.2 k⟩
  | [], _ :: _, _, _, h, _ => by simp [convE] at h
  | _ :: _, [], _, _, h, _ => by simp [convE] at h

theorem convL_ps {D : Nat → Prop} {A : AV → AV → Prop} : ∀ (l : List PV), convL D A (l.map AV.p) (l.map AV.p)
  | [] => by simp [convL]
  | x :: l => by simp only [List.map_cons, convL]; exact ⟨by simp [conv], convL_ps l⟩
theorem convE_ps {D : Nat → Prop} {A : AV → AV → Prop} : ∀ (es : List (List PV)), convE D A (pcells es) (pcells es)
  | [] => by simp [pcells, convE]
  | e :: es => by
    have := convE_ps (D := D) (A := A) es
    simp only [pcells, List.map_cons, convE] at this ⊢
    exact ⟨convL_ps e, this⟩
theorem convE_rowE {D : Nat → Prop} {A : AV → AV → Prop} : ∀ (ls : List (List Int)) (a : Nat), (∀ j, j < ls.length → D (a + j)) → convE D A (rowE a ls) (rowE a ls)
  | [], _, _ => by simp [rowE, convE]
  | l :: r, a, h => by
    simp only [rowE, convE, convL, conv]
    exact ⟨⟨.inr (.inr ⟨trivial, by simpa using h 0 (by simp)⟩), trivial⟩, convE_rowE r (a + 1) fun j hj => by rw [show a + 1 + j = a + (j + 1) by omega]; exact h (j + 1) (by simp; omega)⟩

theorem frz_nest {F : AHeap} {r v m : Nat} {e ti : TypeId} (hr : F r = none) : ∀ (ls : List (List Int)) (a : Nat) (pre : List (List PV)), r < a → (∀ j, j < ls.length → F (a + j) = none) →
    WeakL F [.agg [.own r v 0 m]] (hp F ((r, .row v e 1 (pcells pre ++ rowE a ls)) :: nest ti a ls)) [.agg [.own r v 0 m]] (hp F [(r, .row v e 1 (pcells (pre ++ ls.map fun l => [.sl 1 (ints l)])))])
  | [], a, pre, _, _ => by simpa [rowE, nest] using WeakL.refl _ _ _
  | l :: rest, a, pre, ha, hF => by
    have ih := frz_nest (F := F) (v := v) (m := m) (e := e) (ti := ti) hr rest (a + 1) (pre ++ [[.sl 1 (ints l)]]) (by omega) fun j hj => by rw [show a + 1 + j = a + (j + 1) by omega]; exact hF (j + 1) (by simp; omega)
    have e1 : pre ++ [[PV.sl 1 (ints l)]] ++ rest.map (fun l => [PV.sl 1 (ints l)]) = pre ++ (l :: rest).map (fun l => [PV.sl 1 (ints l)]) := by simp
    rw [e1] at ih
    refine WeakL.trans ?_ ih
    have hFa : F a = none := by simpa using hF 0 (by simp)
    refine weakL_freeze (id := a) (ver := l.length) (sz := 1) (e := ti) (es := ints l) ?_ ?_ ?_ ?_ ?_
    · simp only [nest, hp]; rw [if_neg (by omega)]; simp
    · simp [convL, conv, hp]
    · simp only [hp]; rw [if_neg (by omega), nest_out (.inl (by omega))]; exact hFa
    · intro q hq
      simp only [List.mem_cons] at hq
      rcases hq with rfl | hq
      · refine ⟨.row v e 1 (pcells pre ++ rowE a (l :: rest)), by simp [hp], rfl, rfl, rfl, ?_⟩
        have e2 : pcells (pre ++ [[PV.sl 1 (ints l)]]) ++ rowE (a + 1) rest = pcells pre ++ ([.p (.sl 1 (ints l))] :: rowE (a + 1) rest) := by simp [pcells]
        rw [e2]
        refine convE_app (convE_ps pre) ?_
        simp only [rowE, convE, convL, conv, frzA_own]
        refine ⟨⟨.inr (.inl ⟨trivial, trivial, by rw [List.drop_zero, List.take_of_length_le (by simp)]⟩), trivial⟩, convE_rowE rest (a + 1) fun j hj => ?_⟩
        simp only [hp]
        rw [if_neg (by omega)]
        obtain ⟨x, hx⟩ := get_lt hj
        rw [nest_get hx]
        simp
      · obtain ⟨j, x, hx, rfl⟩ := nest_mem hq
        refine ⟨.row x.length ti 1 (rints x), ?_, rfl, rfl, rfl, convE_ps _⟩
        simp only [nest, hp]
        rw [if_neg (by omega), if_neg (by omega)]
        exact nest_get hx
    · refine shed_of fun q hq => .inl ?_
      simp only [List.mem_cons] at hq
      rcases hq with rfl | hq
      · exact hr
      · obtain ⟨j, x, hx, rfl⟩ := nest_mem hq
        exact hF j (List.getElem?_eq_some_iff.1 hx).1

/-- The end: a row of rows. -/
theorem end_nest {P : Program} {F : AHeap} {t : Slots} {L : Locs} {n : Nat} {rs : List ResultVar} {R : AV → AHeap → Prop} {r v a : Nat} {e ti : TypeId} {ls : List (List Int)} (hres : Is (ares P t (hp F L) rs) (some (.agg [.own r v 0 ls.length])))
    (hk : hp F L r = some (.row v e 1 (rowE a ls))) (hN : ∀ j l, ls[j]? = some l → hp F L (a + j) = some (.row l.length ti 1 (rints l))) (hr : F r = none) (ha : r < a) (hF : ∀ j, j < ls.length → F (a + j) = none) (hs : shed F [] L)
    (H : R (.agg [.p (.sl 1 (ls.map fun l => [.sl 1 (ints l)]))]) F) : send P F rs R .ret t L n := by
  refine end_ret hres (fun _ => ?_) H
  refine WeakL.trans (weakL_cut (L' := (r, .row v e 1 (pcells [] ++ rowE a ls)) :: nest ti a ls) (ys := [.agg [.own r v 0 ls.length]]) ?_ ?_ ?_) (WeakL.trans (frz_nest hr ls a [] ha hF) ?_)
  · simp [convL, conv, hp]
  · refine keptB_of fun q hq => ?_
    simp only [List.mem_cons] at hq
    rcases hq with rfl | hq
    · refine ⟨by simpa [pcells] using hk, rfl, rfl, rfl, ?_⟩
      simp only [pcells, List.map_nil, List.nil_append]
      refine convE_rowE ls a fun j hj => ?_
      simp only [hp]
      rw [if_neg (by omega)]
      obtain ⟨x, hx⟩ := get_lt hj
      rw [nest_get hx]
      simp
    · obtain ⟨j, x, hx, rfl⟩ := nest_mem hq
      exact ⟨hN j x hx, rfl, rfl, rfl, convE_ps _⟩
  · exact shed_of fun q hq => by
      rcases shed_mem hs q hq with h | h
      · exact .inl h
      · simp at h
  · refine weakL_freeze (L' := []) (id := r) (ver := v) (sz := 1) (e := e) (es := ls.map fun l => [.sl 1 (ints l)]) (by simp [hp]) ?_ hr (by simp) (by simp [shed, hr])
    simp only [convL, conv]
    refine ⟨.inr ⟨_, rfl, .inr (.inl ⟨0, ls.length, rfl, ?_⟩), trivial⟩, trivial⟩
    rw [List.drop_zero, List.take_of_length_le (by simp)]

/-- A cut at a row of rows. -/
theorem kept_nest {F : AHeap} {L fx : List (Nat × Blk)} {ls : List (List Int)} {a : Nat} {ti : TypeId} (h1 : ∀ p ∈ fx, hp F L p.1 = some p.2 ∧ convB (fun id => hp F (fx ++ nest ti a ls) id ≠ none) noA p.2 p.2)
    (hN : ∀ j l, ls[j]? = some l → hp F L (a + j) = some (.row l.length ti 1 (rints l))) : keptB F L (fx ++ nest ti a ls) (fx ++ nest ti a ls) := by
  refine keptB_of fun q hq => ?_
  simp only [List.mem_append] at hq
  rcases hq with hq | hq
  · exact h1 q hq
  · obtain ⟨j, x, hx, rfl⟩ := nest_mem hq
    exact ⟨hN j x hx, rfl, rfl, rfl, convE_ps _⟩

end Go.AM

/- A function that leaves memory as it was may be handed rows of the caller's own: it reads them as plain lists. -/
namespace Go.AM
set_option linter.unusedVariables false
set_option linter.unusedSimpArgs false
open Go Go.RowKit
set_option linter.unusedSectionVars false
variable [Glob]

/-- How a value reads as a plain one. -/
def viewP (h : AHeap) : Nat → AV → Option PV
  | _, .p x => some x
  | k + 1, .own id ver 0 len => match h id with
    | some (.row ver' _ sz es) => if ver' = ver ∧ len = es.length then (es.mapM fun c => List.mapM (viewP h k) c).map (PV.sl sz) else none
    | _ => none
  | _, _ => none
def viewA (h : AHeap) (k : Nat) : AV → Option AV
  | .agg cs => if cs.all AV.one = true then (cs.mapM (viewP h k)).map fun l => .agg (l.map AV.p) else none
  | x => (viewP h k x).map AV.p

theorem mapM_flat {α β : Type} {f : α → Option β} : ∀ {es : List (List α)} {es' : List (List β)}, (es.mapM fun c => c.mapM f) = some es' → es.flatten.mapM f = some es'.flatten ∧ es'.length = es.length ∧ ∀ sz, (∀ x ∈ es, x.length = sz) → ∀ x ∈ es', x.length = sz
  | [], es', h => by simp at h; subst h; simp
  | e :: es, es', h => by
    simp only [List.mapM_cons, Option.bind_eq_bind, Option.bind_eq_some_iff, Option.pure_def, Option.some.injEq] at h
    obtain ⟨a, ha, r, hr, rfl⟩ := h
    obtain ⟨h1, h2, h3⟩ := mapM_flat hr
    refine ⟨?_, by simp [h2], fun sz hs x hx => ?_⟩
    · simp only [List.flatten_cons, List.mapM_append, ha, h1]; rfl
    · simp only [List.mem_cons] at hx
      rcases hx with rfl | hx
      · have : x.length = e.length := by
          clear h1 h2 h3 hr hs
          induction e generalizing x with
          | nil => simp at ha; subst ha; rfl
          | cons y e ih =>
            simp only [List.mapM_cons, Option.bind_eq_bind, Option.bind_eq_some_iff, Option.pure_def, Option.some.injEq] at ha
            obtain ⟨b, hb, q, hq, rfl⟩ := ha
            simp [ih _ hq]
        rw [this]; exact hs e (by simp)
      · exact h3 sz (fun y hy => hs y (by simp [hy])) x hx

theorem PEls.of_flat {M : Nat → Nat → Option Value} {b sz : Nat} : ∀ {es : List (List PV)} {o : Nat}, (∀ e ∈ es, e.length = sz) → PCells M b o es.flatten → PEls M b o sz es
  | [], _, _, _ => by simp [PEls]
  | e :: es, o, hs, h => by
    have split : ∀ {a r : List PV} {o : Nat}, PCells M b o (a ++ r) → PCells M b o a ∧ PCells M b (o + a.length) r := by
      intro a
      induction a with
      | nil => intro r o h; exact ⟨by simp [PCells], by simpa using h⟩
      | cons x a ih =>
        intro r o h
        simp only [List.cons_append, PCells] at h ⊢
        obtain ⟨h1, h2⟩ := h
        obtain ⟨h3, h4⟩ := ih h2
        exact ⟨⟨h1, h3⟩, by rw [List.length_cons, show o + (a.length + 1) = o + 1 + a.length by omega]; exact h4⟩
    simp only [List.flatten_cons] at h
    obtain ⟨h1, h2⟩ := split h
    have he := hs e (by simp)
    simp only [PEls]
    rw [he] at h2
    exact ⟨he, h1, PEls.of_flat (fun x hx => hs x (by simp [hx])) h2⟩

theorem view_list {G : Gh} {w : World} {f : AV → Option PV} : ∀ {xs : List AV} {ps : List PV} {vs : List Value}, (∀ x ∈ xs, ∀ p v, f x = some p → Rel G x v → PRel (mem w) p v) → xs.mapM f = some ps → RelL G xs vs → (∀ v ∈ vs, v.oneCell' = true) → PRelL (mem w) ps vs
  | [], ps, [], _, h, _, _ => by simp at h; subst h; simp [PRelL]
  | x :: xs, ps, v :: vs, hf, h, r, ho => by
    simp only [List.mapM_cons, Option.bind_eq_bind, Option.bind_eq_some_iff, Option.pure_def, Option.some.injEq] at h
    obtain ⟨a, ha, q, hq, rfl⟩ := h
    simp only [RelL] at r
    simp only [PRelL]
    exact ⟨hf x (by simp) a v ha r.1, ho v (by simp), view_list (fun y hy => hf y (by simp [hy])) hq r.2 fun u hu => ho u (by simp [hu])⟩
  | [], _, _ :: _, _, _, r, _ => by simp [RelL] at r
  | _ :: _, _, [], _, _, r, _ => by simp [RelL] at r

theorem view_rel {G : Gh} {h : AHeap} {w : World} (H : HRel G h w) : ∀ (k : Nat) (a : AV) (x : PV) (y : Value), viewP h k a = some x → Rel G a y → PRel (mem w) x y := by
  intro k
  induction k with
  | zero =>
    intro a x y hv r
    cases a with
    | p z => simp only [viewP] at hv; cases hv; simp only [Rel] at r; exact PRel.mono (fun b o v hm => mem_of (H.imm b o v hm).1 (H.imm b o v hm).2) r
    | _ => simp [viewP] at hv
  | succ k ih =>
    intro a x y hv r
    cases a with
    | p z => simp only [viewP] at hv; cases hv; simp only [Rel] at r; exact PRel.mono (fun b o v hm => mem_of (H.imm b o v hm).1 (H.imm b o v hm).2) r
    | own id ver off len =>
      cases off with
      | succ off => simp [viewP] at hv
      | zero =>
        simp only [viewP] at hv
        split at hv
        · rename_i ver' e sz es hk
          split at hv
          · rename_i hc
            obtain ⟨rfl, rfl⟩ := hc
            simp only [Option.map_eq_some_iff] at hv
            obtain ⟨es', hes, rfl⟩ := hv
            obtain ⟨m1, m2, m3⟩ := mapM_flat hes
            obtain ⟨v, xs, l1, o1, r1, s1, c1, _⟩ := H.blk id _ hk
            simp only [Rel] at r
            obtain ⟨a, n, c, sz', a', l2, h1, h2, rfl, h3, h4⟩ := r
            rw [l1] at l2
            cases l2
            have ha' := h4 (.inr trivial)
            have o2 := o1
            rcases o1 with ⟨hx, ⟨e1, e2⟩ | ⟨g, cap, cur, e1, hb, hg, hn, hcap, hsz, htk⟩⟩
            · cases e1
              have : es' = [] := List.eq_nil_of_length_eq_zero (by omega)
              subst this
              simp only [PRel]
              exact ⟨a', es.length, 0, rfl, by simp [e2], by omega, fun _ => rfl, .inl trivial⟩
            · cases e1
              simp only [Option.map_some] at ha'
              subst ha'
              simp only [PRel, Nat.sub_zero]
              refine ⟨_, _, _, rfl, m2.symm, h2, by simp, .inr ⟨g, 0 * sz, rfl, PEls.of_flat (m3 sz s1) ?_⟩⟩
              have hl := view_list (w := w) (fun z hz p v hp hr => ih z p v hp hr) m1 r1 c1
              refine PRelL.cells hl fun i hi => ?_
              rw [Nat.zero_mul, Nat.zero_add]
              have hlt : i < es.length * sz := by rw [hx] at hi; exact hi
              exact o2.cellAt i hlt
          · cases hv
        · cases hv
    | _ => simp [viewP] at hv

theorem RelL.ones {G : Gh} : ∀ {xs : List AV} {vs : List Value}, RelL G xs vs → (∀ c ∈ xs, c.one = true) → ∀ v ∈ vs, v.oneCell' = true
  | [], [], _, _ => by simp
  | x :: xs, v :: vs, h, ho => by
    simp only [RelL] at h
    intro u hu
    simp only [List.mem_cons] at hu
    rcases hu with rfl | hu
    · exact AV.one_rel (ho x (by simp)) h.1
    · exact RelL.ones h.2 (fun c hc => ho c (by simp [hc])) u hu
  | [], _ :: _, h, _ => by simp [RelL] at h
  | _ :: _, [], h, _ => by simp [RelL] at h

theorem viewA_rel {G : Gh} {h : AHeap} {w : World} (H : HRel G h w) {k : Nat} {a x : AV} {y : Value} (hv : viewA h k a = some x) (r : Rel G a y) : Rel (gh0 w) x y := by
  have key : ∀ z, (viewP h k a).map AV.p = some z → Rel (gh0 w) z y := by
    intro z hz
    simp only [Option.map_eq_some_iff] at hz
    obtain ⟨p, hp, rfl⟩ := hz
    simp only [Rel]
    exact view_rel H k a p y hp r
  cases a with
  | agg cs =>
    simp only [viewA] at hv
    split at hv
    · rename_i ho
      simp only [Option.map_eq_some_iff] at hv
      obtain ⟨l, hl, rfl⟩ := hv
      simp only [Rel] at r ⊢
      obtain ⟨vs, rfl, r⟩ := r
      refine ⟨vs, rfl, PRelL.rel (G := gh0 w) (view_list (fun z _ p v hp hr => view_rel H k z p v hp hr) hl r (RelL.ones r (by simpa using ho)))⟩
    · cases hv
  | _ => exact key x hv

theorem viewL_rel {G : Gh} {h : AHeap} {w : World} (H : HRel G h w) {k : Nat} : ∀ {as xs : List AV} {ys : List Value}, as.mapM (viewA h k) = some xs → RelL G as ys → RelL (gh0 w) xs ys
  | [], xs, [], hv, _ => by simp at hv; subst hv; simp [RelL]
  | a :: as, xs, y :: ys, hv, r => by
    simp only [List.mapM_cons, Option.bind_eq_bind, Option.bind_eq_some_iff, Option.pure_def, Option.some.injEq] at hv
    obtain ⟨b, hb, q, hq, rfl⟩ := hv
    simp only [RelL] at r ⊢
    exact ⟨viewA_rel H hb r.1, viewL_rel H hq r.2⟩
  | [], _, _ :: _, _, r => by simp [RelL] at r
  | _ :: _, _, [], _, r => by simp [RelL] at r

theorem ownsRow_below {w w' : World} {base sz n : Nat} {e : TypeId} {v : Value} {xs : List Value} (h : w.ownsRow base e sz v n xs) (hb : Below w.heap.size w w') : w'.ownsRow base e sz v n xs := by
  obtain ⟨h1, h2⟩ := h
  refine ⟨h1, ?_⟩
  rcases h2 with h2 | ⟨g, cap, cur, e1, b1, hg, r⟩
  · exact .inl h2
  · refine .inr ⟨g, cap, cur, e1, b1, ?_, r⟩
    have hlt : g < w.heap.size := (Array.getElem?_eq_some_iff.1 hg).1
    rw [hb.block g hlt]; exact hg

theorem HRel.grew {G : Gh} {h : AHeap} {w w' : World} (H : HRel G h w) (hb : Below w.heap.size w w') : HRel G h w' where
  below := H.below.trans (hb.mono H.below.size)
  imm := fun b o v hm => by
    obtain ⟨h1, h2⟩ := H.imm b o v hm
    have hlt : b < w.heap.size := by
      cases hg : w.heap[b]? with
      | none => simp [World.cell?, hg] at h1
      | some x => exact (Array.getElem?_eq_some_iff.1 hg).1
    exact ⟨by rw [hb.cell (p := ⟨b, o, none⟩) hlt]; exact h1, h2⟩
  blk := fun id k hk => by
    have := H.blk id k hk
    cases k with
    | row ver e sz es =>
      obtain ⟨v, xs, a1, a2, a3⟩ := this
      exact ⟨v, xs, a1, ownsRow_below a2 hb, a3⟩
    | mp ver es =>
      obtain ⟨b, a1, a2, ⟨ents, clock, a3, a4⟩, a5⟩ := this
      refine ⟨b, a1, a2, ⟨ents, clock, ?_, a4⟩, a5⟩
      rw [hb.block b (Array.getElem?_eq_some_iff.1 a3).1]; exact a3
  sep := H.sep
  dom := H.dom
  top := H.top
  glb := H.glb
  mks := fun b hm => ⟨(H.mks b hm).1, by rw [hb.block b (Array.getElem?_eq_some_iff.1 (H.mks b hm).2).1]; exact (H.mks b hm).2⟩
  outs := fun p hm => ⟨(H.outs p hm).1, by rw [hb.block p.1 (Array.getElem?_eq_some_iff.1 (H.outs p hm).2.1).1]; exact (H.outs p hm).2.1, (H.outs p hm).2.2⟩
  apt := H.apt

/-- A function whose result is a scalar, handed what reads as its arguments. -/
theorem does_view {P : Program} {f : FuncId} {as xs : List AV} {rd : Locs} {x : Value} (k : Nat) (h : Pure P f xs (.p (.v x))) (hv : ∀ F : AHeap, (∀ p ∈ rd, F p.1 = some p.2) → as.mapM (viewA F k) = some xs) : Does P f as rd [] (.p (.v x)) := by
  intro F n hF hrd G w vs H hr
  refine (h (fun _ => none) 0 (fun _ _ => rfl) (gh0 w) w vs (hrel0 w fun p hp => PCells.mono (fun b o v h => mem_of (H.imm b o v h).1 (H.imm b o v h).2) (H.glb p hp)) (viewL_rel H (hv F hrd) hr)).mono ?_
  rintro e w' ⟨v, G', r, h', rfl, hl, hh, hv', rfl, rfl⟩
  have hb := hh.below
  rw [hl.w] at hb
  simp only [Rel, PRel] at hv'
  subst hv'
  exact ⟨_, G, _, F, rfl, .refl G, H.grew hb, by simp [Rel, PRel], rfl, rfl⟩

end Go.AM

/- Calls in drawn regions, behind guards and with rows of the caller's own. -/
namespace Go.AM
set_option linter.unusedVariables false
set_option linter.unusedSimpArgs false
open Go Go.RowKit
set_option linter.unusedSectionVars false
variable [Glob]

section
variable {P : Program} {N : Nat} {F : AHeap} {ops : List Oper} {us : List (Nat × Nat)} {Q : SPost} {t : Slots} {L : Locs} {n : Nat} {dn : List Ef} {rest : List Oper}

theorem ds_call_g {o : Oper} {c : Call} {f : FuncId} {args : List AV} {rd wr : Locs} {v : AV} {n' : Nat} (hc : o.op = .call c) (hw : awanted ops t o = some true) (hf : fits N o.dst = true) (hx : acallee t c = some (f, args)) (hp' : callable P f = true) (HC : Does P f args rd wr v)
    (hcall : isCall o.op = true) (hrd : ∀ p ∈ rd, hp F L p.1 = some p.2) (hwr : ∀ p ∈ wr, (∃ q ∈ rd, q.1 = p.1) ∨ (n ≤ p.1 ∧ p.1 < n')) (hnn : n ≤ n') (H : DS P N F ops us Q (dn ++ [⟨true, rd, wr, v⟩]) rest (aput t o.dst v) (wr ++ L) n') :
    DS P N F ops us Q dn (o :: rest) t L n := by
  have hlt : Fresh F L n → ∀ p ∈ wr, p.1 < n' := fun hfr p hp => by
    rcases hwr p hp with ⟨q, hq, e⟩ | h
    · have h1 := hrd q hq
      by_cases h2 : p.1 < n'
      · exact h2
      · exfalso
        rw [e, hfr p.1 (by omega)] at h1
        cases h1
    · exact h.2
  refine ds_cons (e := ⟨true, rd, wr, v⟩) (fun hfr => ⟨hf, hw, by simp, fun _ => ⟨hrd, fun p hp => ?_, callTri hc hx hp' HC (by rw [hc]; rfl)⟩⟩) (fun hm => ?_) rfl rfl (fun hfr => ?_) hnn (fun hfr k hk hm => ?_) H
  · rcases hwr p hp with h | ⟨h1, _⟩
    · exact .inl h
    · exact .inr (hfr p.1 h1)
  · rw [hc] at hm hcall
    obtain ⟨callee, cargs, ats⟩ := c
    cases callee <;> simp [mayWrite, isCall] at hm hcall
  · intro k hk
    rw [← hp_append, hp_ne]
    · exact hfr k (by omega)
    · intro p hp e
      have := hlt hfr p hp
      omega
  · simp only [wids, List.mem_map] at hm
    obtain ⟨p, hp', rfl⟩ := hm
    have := hlt hfr p hp'
    omega

theorem isCall_of {o : Oper} {c : Call} {f : FuncId} {args : List AV} (hc : o.op = .call c) (hx : acallee t c = some (f, args)) : isCall o.op = true := by
  rw [hc]; simp only [acallee] at hx; unfold isCall; split <;> simp_all

/-- A pure call, behind a guard or not. -/
theorem ds_pure_g {o : Oper} {c : Call} {f : FuncId} {args : List AV} {v : AV} (hc : o.op = .call c) (hw : Is (awanted ops t o) (some true)) (hf : fits N o.dst = true) (hx : Is (acallee t c) (some (f, args))) (hp' : callable P f = true) (HC : Pure P f args v)
    (H : DS P N F ops us Q (dn ++ [⟨true, [], [], v⟩]) rest (aput t o.dst v) L n) : DS P N F ops us Q dn (o :: rest) t L n :=
  ds_call_g hc hw hf hx hp' HC.does (isCall_of hc hx) (by simp) (by simp) (Nat.le_refl _) H

/-- A call whose result is a scalar, with rows of the caller's own. -/
theorem ds_view {o : Oper} {c : Call} {f : FuncId} {as xs : List AV} {rd : Locs} {x : Value} (k : Nat) (hc : o.op = .call c) (hw : Is (awanted ops t o) (some true)) (hf : fits N o.dst = true) (hx : Is (acallee t c) (some (f, as))) (hp' : callable P f = true) (HC : Pure P f xs (.p (.v x)))
    (hv : ∀ F' : AHeap, (∀ p ∈ rd, F' p.1 = some p.2) → as.mapM (viewA F' k) = some xs) (hrd : ∀ p ∈ rd, hp F L p.1 = some p.2)
    (H : DS P N F ops us Q (dn ++ [⟨true, rd, [], .p (.v x)⟩]) rest (aput t o.dst (.p (.v x))) L n) : DS P N F ops us Q dn (o :: rest) t L n :=
  ds_call_g hc hw hf hx hp' (does_view k HC hv) (isCall_of hc hx) hrd (by simp) (Nat.le_refl _) H
end

end Go.AM

/- Weakening in the midst of code. -/
namespace Go.AM
set_option linter.unusedVariables false
set_option linter.unusedSimpArgs false
open Go Go.RowKit
set_option linter.unusedSectionVars false
variable [Glob]

theorem sw_weak {P : Program} {N : Nat} {F : AHeap} {Q : SPost} {t t' : Slots} {L L' : Locs} {n n' : Nat} {c : Code} (hw : Weak N F t (hp F L) t' (hp F L')) (hf : Fresh F L' n') (H : SW P N F c Q t' L' n') : SW P N F c Q t L n :=
  fun _ => awp_weak hw (H hf)

theorem weak_freeze_hp {N : Nat} {F : AHeap} {L L' : Locs} {t t' : Slots} {id ver sz : Nat} {e : TypeId} {es : List (List PV)} (hk : hp F L id = some (.row ver e sz (pcells es)))
    (ht : convT (fun i => hp F L' i ≠ none) (frzA id ver sz es) t t') (hid : hp F L' id = none)
    (hb : ∀ p ∈ L', ∃ k, hp F L p.1 = some k ∧ convB (fun i => hp F L' i ≠ none) (frzA id ver sz es) k p.2) (hL : shed F L' L) : Weak N F t (hp F L) t' (hp F L') :=
  weak_of_list (weakL_freeze hk (convT_list ht) hid hb hL)

end Go.AM

/- Nil slices as empty lists; where ways meet. -/
namespace Go.AM
set_option linter.unusedVariables false
set_option linter.unusedSimpArgs false
open Go Go.RowKit
set_option linter.unusedSectionVars false
variable [Glob]

def nilS (x y : AV) : Prop := x = .p (.v (.slice none 0 0)) ∧ ∃ sz, y = .p (.sl sz [])
@[simp] theorem nilS_nil {y : AV} : nilS (.p (.v (.slice none 0 0))) y = ∃ sz, y = .p (.sl sz []) := by
  apply propext; unfold nilS; simp

theorem weak_nils {h0 h h' : AHeap} {xs ys : List AV} (hx : convL (fun i => h i ≠ none) nilS xs ys) (hb : ∀ i k', h' i = some k' → ∃ k, h i = some k ∧ (k' = k ∨ convB (fun i => h i ≠ none) nilS k k')) (hd : ∀ i, h i ≠ none → h' i ≠ none) : WeakL h0 xs h ys h' := by
  intro G0 G w vs _ hle hr hrel
  have hA : ∀ x y u, nilS x y → Rel G x u → Rel G y u := by
    rintro x y u ⟨rfl, sz, rfl⟩ r
    exact nil_rel r
  have hm : ∀ b o v, G.M b o = some v → G.M b o = some v := fun _ _ _ h => h
  have hl : ∀ i ver x, h i ≠ none → G.loc i ver = some x → G.loc i ver = some x := fun _ _ _ _ h => h
  refine ⟨G, hle, ?_, convL_rel hm hl hA hx hrel, fun _ h => h⟩
  have key : ∀ i k', h' i = some k' → ∃ k, h i = some k ∧ (BRel G w i k' ∧ cbOf G i k' = cbOf G i k) ∧ k'.ver = k.ver := by
    intro i k' hk'
    obtain ⟨k, h1, h2⟩ := hb i k' hk'
    refine ⟨k, h1, ?_, by rcases h2 with rfl | h2; rfl; exact convB_ver h2⟩
    rcases h2 with rfl | h2
    · exact ⟨hr.blk i k' h1, rfl⟩
    · exact convB_brel hm hl hA rfl (by simp [h1]) h2 (fun _ _ _ => rfl) (hr.blk i k h1)
  refine ⟨hr.below, hr.imm, fun i k' hk' => by obtain ⟨k, _, ⟨h2, _⟩, _⟩ := key i k' hk'; exact h2, ?_, fun i ver x hx => hd i (hr.dom i ver x hx), fun i k' v hk' hv => ?_, hr.glb, hr.mks, hr.outs, hr.apt⟩
  · intro i j k l b hij hi hj h1
    obtain ⟨k1, a1, ⟨_, c1⟩, _⟩ := key i k hi
    obtain ⟨l1, a2, ⟨_, c2⟩, _⟩ := key j l hj
    rw [c1] at h1
    rw [c2]
    exact hr.sep i j k1 l1 b hij a1 a2 h1
  · obtain ⟨k, h1, _, h3⟩ := key i k' hk'
    exact hr.top i k v h1 (by omega)

theorem weak_nils_hp {N : Nat} {F : AHeap} {L L' : List (Nat × Blk)} {t t' : Slots} (ht : convT (fun i => hp F L i ≠ none) nilS t t')
    (hb : ∀ p ∈ L', ∃ k, hp F L p.1 = some k ∧ (p.2 = k ∨ convB (fun i => hp F L i ≠ none) nilS k p.2)) (hL : ∀ p ∈ L, p.1 ∈ L'.map (·.1)) : Weak N F t (hp F L) t' (hp F L') := by
  refine weak_of_list (weak_nils (convT_list ht) ?_ ?_)
  · intro i k' hk'
    rcases hp_mem hk' with ⟨p, hp', rfl, rfl⟩ | ⟨h1, h2⟩
    · exact hb p hp'
    · refine ⟨k', ?_, .inl rfl⟩
      rw [hp_ne fun p hp' e => ?_]
      · exact h1
      · subst e
        obtain ⟨q, hq, e⟩ := List.mem_map.1 (hL p hp')
        exact h2 q hq e
  · intro i hi
    cases hx : hp F L i with
    | none => exact absurd hx hi
    | some k =>
      rcases hp_mem hx with ⟨p, hp', rfl, rfl⟩ | ⟨h1, h2⟩
      · refine hp_some (.inr ?_)
        obtain ⟨q, hq, e⟩ := List.mem_map.1 (hL p hp')
        exact ⟨q, hq, e⟩
      · exact hp_some (.inl (by simp [h1]))

/-- Where ways meet: behind the code the state is looked at as one of a family. -/
theorem sw_meet {P : Program} {N : Nat} {F : AHeap} {Q Q' : SPost} {t : Slots} {L : Locs} {n : Nat} {c y : Code} {α : Type} (T : α → Slots) (H : α → Locs) (k : α → Nat) (I : α → Prop) (hfr : ∀ x, Fresh F (H x) (k x))
    (h1 : SW P N F c (sthen (fun t' L' n' => ∃ x, I x ∧ Weak N F t' (hp F L') (T x) (hp F (H x))) Q) t L n) (h2 : ∀ x, I x → SW P N F y Q' (T x) (H x) (k x)) : SW P N F c (sthen (SW P N F y Q') Q) t L n :=
  sw_mono h1 fun e t' L' n' q => by
    cases e with
    | normal =>
      obtain ⟨x, hx, hw⟩ := q
      exact sw_weak hw (hfr x) (h2 x hx)
    | _ => exact q

end Go.AM

/- Package variables that hold plain data: their cells. -/
namespace Go.AM
set_option linter.unusedVariables false
set_option linter.unusedSimpArgs false
open Go Go.RowKit Go.ChangeShapes Go.WideShapes Go.Deep
set_option linter.unusedSectionVars false
variable [Glob]

mutual
def dlit {H : Type} : DataW H → Option (List Value)
  | .lit (.int k n) => some [.int k n]
  | .lit (.bool b) => some [.bool b]
  | .lit (.string s) => some [.string ⟨s.toArray⟩]
  | .agg ds => dlits ds
  | _ => none
def dlits {H : Type} : List (DataW H) → Option (List Value)
  | [] => some []
  | d :: ds => match dlit d, dlits ds with
    | some a, some b => some (a ++ b)
    | _, _ => none
end

section
variable {H : Type} {enc : TypeId × Value → H} {P : Program} {w : World} {base : Nat} {spare : Nat → Bool} {held : Bool}

theorem trod_parts2 {t : TypeId} {fuel : Nat} {cs : List Value} {x : DataW H × List MemPlace} {l : List (Nat × TypeId)} (hp : partsOf P t = some l) (h : DataW.trod enc P w base spare held fuel t cs = some x) :
    cs.length = P.cellsOf t ∧ ∃ m ds, x.1 = .agg ds ∧ ds.length = l.length ∧ ∀ (i : Nat) (p : Nat × TypeId), l[i]? = some p → ∃ y, DataW.trod enc P w base spare held m p.2 ((cs.drop p.1).take (P.cellsOf p.2)) = some y ∧ ds[i]? = some y.1 := by
  unfold partsOf at hp
  split at hp
  · rename_i fs hu
    cases hp
    obtain ⟨xs, n, _, e0, h1, h2, h3⟩ := DataW.trod_struct hu h
    refine ⟨h1, n, xs.map (·.1), by rw [e0], by simp [h2], fun i p hi => ?_⟩
    simp only [List.getElem?_map, Array.getElem?_toList, Option.map_eq_some_iff] at hi
    obtain ⟨f, hf, rfl⟩ := hi
    have hlt : i < xs.length := by rw [h2]; exact (Array.getElem?_eq_some_iff.1 hf).1
    exact ⟨xs[i], by rw [h3 i f hf]; exact List.getElem?_eq_getElem hlt, by rw [List.getElem?_map, List.getElem?_eq_getElem hlt]; rfl⟩
  · rename_i n e hu
    cases hp
    obtain ⟨xs, m, _, e0, h1, h2, h3⟩ := DataW.trod_array hu h
    refine ⟨h1, m, xs.map (·.1), by rw [e0], by simp [h2], fun i p hi => ?_⟩
    simp only [List.getElem?_map, Option.map_eq_some_iff] at hi
    obtain ⟨j, hj, rfl⟩ := hi
    obtain ⟨hlt, e1⟩ := List.getElem?_eq_some_iff.1 hj
    simp at hlt e1
    subst e1
    have hlx : i < xs.length := by omega
    exact ⟨xs[i], by rw [h3 i hlt]; exact List.getElem?_eq_getElem hlx, by rw [List.getElem?_map, List.getElem?_eq_getElem hlx]; rfl⟩
  · cases hp

mutual
theorem trod_lit : ∀ (sh : Sh) (t : TypeId) (fuel : Nat) (cs : List Value) (x : DataW H × List MemPlace) (vs : List Value), shOk P sh t = true → DataW.trod enc P w base spare held fuel t cs = some x → dlit x.1 = some vs →
    cs = vs ∧ ∀ v ∈ vs, v.oneCell' = true
  | .int k, t, fuel, cs, x, vs, hs, h, hd => by
    simp only [shOk] at hs
    split at hs
    · rename_i k' hu
      obtain ⟨n, rfl, rfl, _⟩ := DataW.trod_int hu h
      simp only [dlit] at hd
      cases hd
      simp [Value.oneCell']
    · cases hs
  | .bool, t, fuel, cs, x, vs, hs, h, hd => by
    simp only [shOk] at hs
    split at hs
    · rename_i hu
      obtain ⟨b, rfl, rfl⟩ := DataW.trod_bool hu h
      simp only [dlit] at hd
      cases hd
      simp [Value.oneCell']
    · cases hs
  | .str, t, fuel, cs, x, vs, hs, h, hd => by
    simp only [shOk] at hs
    split at hs
    · rename_i hu
      obtain ⟨s, rfl, rfl, _⟩ := DataW.trod_string hu h
      simp only [dlit] at hd
      cases hd
      simp [Value.oneCell']
    · cases hs
  | .sl n e, t, fuel, cs, x, vs, hs, h, hd => by
    simp only [shOk] at hs
    split at hs
    · rename_i et hu
      rcases open_slice hu h with ⟨_, rfl⟩ | ⟨a, len, cap, m, k, D, Pl, _, _, _, _, _, rfl, _⟩ <;> simp [dlit] at hd
    · cases hs
  | .agg fs, t, fuel, cs, x, vs, hs, h, hd => by
    simp only [shOk, Bool.and_eq_true, beq_iff_eq] at hs
    obtain ⟨h1, hs⟩ := hs
    split at hs
    · rename_i l hl
      obtain ⟨h2, m, ds, e1, e2, h3⟩ := trod_parts2 hl h
      rw [e1] at hd
      simp only [dlit] at hd
      have := trod_lits fs 0 l m cs ds vs hs (by rw [h2, h1]; omega) e2 h3 hd
      simpa using this
    · cases hs
theorem trod_lits : ∀ (fs : List Sh) (o : Nat) (l : List (Nat × TypeId)) (m : Nat) (cs : List Value) (ds : List (DataW H)) (vs : List Value), shOks P fs o l = true → cs.length = o + Sh.sizes fs → ds.length = l.length →
    (∀ (i : Nat) (p : Nat × TypeId), l[i]? = some p → ∃ y, DataW.trod enc P w base spare held m p.2 ((cs.drop p.1).take (P.cellsOf p.2)) = some y ∧ ds[i]? = some y.1) → dlits ds = some vs → cs.drop o = vs ∧ ∀ v ∈ vs, v.oneCell' = true
  | [], o, [], m, cs, ds, vs, _, hl, hdl, _, hd => by
    have : ds = [] := List.eq_nil_of_length_eq_zero (by simpa using hdl)
    subst this
    simp only [dlits] at hd
    cases hd
    exact ⟨List.drop_eq_nil_of_le (by simp [Sh.sizes] at hl; omega), by simp⟩
  | f :: fs, o, (o', t) :: r, m, cs, ds, vs, hs, hl, hdl, h, hd => by
    simp only [shOks, Bool.and_eq_true, beq_iff_eq] at hs
    obtain ⟨⟨⟨rfl, h1⟩, h2⟩, h3⟩ := hs
    cases ds with
    | nil => simp at hdl
    | cons d ds =>
      obtain ⟨y, hy, hdy⟩ := h 0 (o', t) rfl
      simp only at hy
      simp at hdy
      subst hdy
      simp only [dlits] at hd
      split at hd
      · rename_i a b ha hb
        cases hd
        obtain ⟨p1, p2⟩ := trod_lit f t m _ y a h2 hy ha
        simp only [Sh.sizes] at hl
        obtain ⟨q1, q2⟩ := trod_lits fs (o' + f.size) r m cs ds b h3 (by omega) (by simpa using hdl) (fun i p hp => by
          obtain ⟨y, y1, y2⟩ := h (i + 1) p (by simpa using hp)
          exact ⟨y, y1, by simpa using y2⟩) hb
        refine ⟨?_, fun v hv => by rcases List.mem_append.1 hv with hv | hv; exact p2 v hv; exact q2 v hv⟩
        have e : cs.drop o' = (cs.drop o').take (P.cellsOf t) ++ cs.drop (o' + f.size) := by
          rw [h1, ← List.drop_drop, List.take_append_drop]
        rw [e, p1, q1]
      · cases hd
  | [], _, _ :: _, _, _, _, _, hs, _, _, _, _ => by simp [shOks] at hs
  | _ :: _, _, [], _, _, _, _, hs, _, _, _, _ => by simp [shOks] at hs
end
end

/-- A listed variable's cells, of its name, its number, its type, its shape. -/
theorem lit_pcells {P : Program} {W : World} {n : String} {d : DataW Unit} {g : Nat} {t : TypeId} {sh : Sh} {vs : List Value} {fuel : Nat} {cs : Array Value} {p : List MemPlace} (hg : P.globalNamed n = some g) (hs : shOk P sh t = true) (hv : W.var? P n = some cs)
    (h : DataW.trod (fun _ => ()) P W 0 (fun _ => true) false fuel t cs.toList = some (d, p)) (hd : dlit d = some vs) : PCells (mem W) g 0 (vs.map PV.v) := by
  obtain ⟨e, h1⟩ := trod_lit sh t fuel _ _ vs hs h hd
  have key : ∀ (l : List Value) (o : Nat), (∀ v ∈ l, v.oneCell' = true) → (∀ i, i < l.length → W.cell? ⟨g, o + i, none⟩ = l[i]?) → PCells (mem W) g o (l.map PV.v) := by
    intro l
    induction l with
    | nil => intro o _ _; simp [PCells]
    | cons v l ih =>
      intro o h1 h2
      simp only [List.map_cons, PCells]
      refine ⟨⟨v, mem_of (by have := h2 0 (by simp); simpa using this) (h1 v (by simp)), by simp [PRel]⟩, ih (o + 1) (fun x hx => h1 x (by simp [hx])) fun i hi => ?_⟩
      have := h2 (i + 1) (by simp; omega)
      rw [show o + 1 + i = o + (i + 1) by omega]
      simpa using this
  refine key vs 0 h1 fun i _ => ?_
  rw [World.var?_cell hg hv, Nat.zero_add, ← e]
  simp

end Go.AM
