/- A region that draws its order, the theorem. -/
import Derived.Test.YtmljoaiedihoiaaDoorAm18
namespace Go.AM
set_option linter.unusedVariables false
set_option linter.unusedSimpArgs false
open Go Go.RowKit
set_option linter.unusedSectionVars false
variable [Glob]

theorem StRel.same {N : Nat} {G : Gh} {t t' : Slots} {h h' : AHeap} {a : Act} {w : World} (st : StRel N G t h a w) (ht : ∀ i, look t' i = look t i) (hh : ∀ i, h' i = h i) : StRel N G t' h' a w := by
  have e : h' = h := funext hh
  subst e
  exact ⟨st.size, st.defers, fun i => by rw [ht]; exact st.slots i, st.heap⟩

/-- j stands before i in every order. -/
def reachB (ops : List Oper) : Nat → Nat → Nat → Bool
  | 0, _, _ => false
  | fuel + 1, j, i => match ops[i]? with
    | some o => o.after.toList.any fun e => Region.binds .any e && (e.on == j || reachB ops fuel j e.on)
    | none => false

def mayWrite : Op → Bool
  | .store .. => true
  | .call { callee := .builtin .append, .. } => true
  | .call { callee := .builtin .unsafeString, .. } => true
  | .call { callee := .builtin _, .. } => false
  | .call _ => true
  | op => makes op

def statB (ops : List Oper) : Bool :=
  (ops.zipIdx.all fun (o, i) => o.after.toList.all fun e => !Region.binds .any e || decide (e.on < i)) &&
  (List.range ops.length).all fun j => (List.range j).all fun i => reachB ops ops.length i j || (match ops[i]?, ops[j]? with | some x, some y => x.apart ops.toArray y | _, _ => false)

/-- The pairs that are not ordered and of which one may write. -/
def unord (ops : List Oper) : List (Nat × Nat) :=
  (List.range ops.length).flatMap fun j => (List.range j).filterMap fun i =>
    if reachB ops ops.length i j then none else match ops[i]?, ops[j]? with | some x, some y => if mayWrite x.op || mayWrite y.op then some (i, j) else none | _, _ => none

def EDisj (x y : Ef) : Prop := (∀ id ∈ wids x, id ∉ rids y ∧ id ∉ wids y) ∧ ∀ id ∈ wids y, id ∉ rids x

def disAll (es : List Ef) : List (Nat × Nat) → Prop
  | [] => True
  | p :: r => (match es[p.1]?, es[p.2]? with | some x, some y => EDisj x y | _, _ => True) ∧ disAll es r

def writesOk : List Oper → List Ef → Prop
  | o :: os, e :: es => (mayWrite o.op = false → e.wr = []) ∧ writesOk os es
  | _, _ => True

theorem writesOk_at : ∀ {os : List Oper} {es : List Ef} (i : Nat) {o : Oper} {e : Ef}, writesOk os es → os[i]? = some o → es[i]? = some e → mayWrite o.op = false → e.wr = []
  | [], _, _, _, _, _, h, _, _ => by simp at h
  | _ :: _, [], _, _, _, _, _, h, _ => by simp at h
  | o :: os, e :: es, 0, o', e', H, ho, he, hm => by simp at ho he; subst ho he; exact H.1 hm
  | o :: os, e :: es, i + 1, o', e', H, ho, he, hm => writesOk_at i H.2 (by simpa using ho) (by simpa using he) hm

theorem disAll_mem {es : List Ef} : ∀ {l : List (Nat × Nat)} {p : Nat × Nat}, disAll es l → p ∈ l → ∀ {x y : Ef}, es[p.1]? = some x → es[p.2]? = some y → EDisj x y
  | [], _, _, h, _, _, _, _ => by cases h
  | q :: r, p, H, hp, x, y, hx, hy => by
    cases hp with
    | head => have := H.1; rw [hx, hy] at this; exact this
    | tail _ hp => exact disAll_mem H.2 hp hx hy

def Closed (ops : List Oper) (listed : Array Bool) : Prop := ∀ (i : Nat) (o : Oper), listed.getD i false = true → ops[i]? = some o → ∀ e ∈ o.after, Region.binds .any e = true → listed.getD e.on false = true

theorem reach_listed {ops : List Oper} {listed : Array Bool} (hc : Closed ops listed) : ∀ (fuel j i : Nat) (o : Oper), ops[i]? = some o → (∀ e ∈ o.after, Region.binds .any e = true → listed.getD e.on false = true) → reachB ops fuel j i = true → listed.getD j false = true
  | 0, _, _, _, _, _, h => by simp [reachB] at h
  | fuel + 1, j, i, o, ho, hall, h => by
    simp only [reachB, ho, List.any_eq_true, Bool.and_eq_true, Bool.or_eq_true, beq_iff_eq] at h
    obtain ⟨e, he, hb, h⟩ := h
    have he' : e ∈ o.after := by simpa using he
    rcases h with h | h
    · rw [← h]; exact hall e he' hb
    · cases ho2 : ops[e.on]? with
      | none =>
        cases fuel with
        | zero => simp [reachB] at h
        | succ fuel => simp [reachB, ho2] at h
      | some o2 => exact reach_listed hc fuel j e.on o2 ho2 (hc e.on o2 (hall e he' hb) ho2) h

theorem getD_true {listed : Array Bool} {i : Nat} (h : listed.getD i true = false) : listed.getD i false = false ∧ i < listed.size := by
  rw [Array.getD_eq_getD_getElem?] at h ⊢
  cases hi : listed[i]? with
  | none => rw [hi] at h; simp at h
  | some b =>
    rw [hi] at h
    simp at h
    subst h
    exact ⟨by simp, (Array.getElem?_eq_some_iff.1 hi).1⟩

theorem wpAny_chain {P : Program} {N : Nat} {ops : List Oper} {es : List Ef} {t : Slots} {h : AHeap} (hC : EChain P N ops ops es t h) (hS : statB ops = true) (hW : writesOk ops es) (hD : disAll es (unord ops)) (hB : ∃ m, ∀ k, m ≤ k → h k = none ∧ ∀ e ∈ es, k ∉ wids e) {G0 : Gh} {Q : Exit → Act → World → Prop}
    (hQ : ∀ G a w, G0.Le G → StRel N G (slotsAt (fun _ => true) ops es 0 t) (heapAt (fun _ => true) es 0 h) a w → Q .normal a w) :
    ∀ (fuel : Nat) (listed : Array Bool) (a : Act) (w : World) (G : Gh), listed.size = ops.length → Closed ops listed → listed.toList.countP (fun b => !b) = fuel → G0.Le G →
      StRel N G (slotsAt (fun j => listed.getD j false) ops es 0 t) (heapAt (fun j => listed.getD j false) es 0 h) a w → wpAny P .any ops.toArray Q fuel listed a w := by
  have hel := hC.len
  simp only [statB, Bool.and_eq_true, List.all_eq_true, List.mem_range, Bool.or_eq_true] at hS
  obtain ⟨hlt, hap⟩ := hS
  have hon : ∀ (i : Nat) (o : Oper), ops[i]? = some o → ∀ e ∈ o.after, Region.binds .any e = true → e.on < i := by
    intro i o ho e he hb
    have := hlt (o, i) (by rw [List.mem_zipIdx_iff_getElem?]; exact ho) e (by simpa using he)
    simpa [hb] using this
  -- all have been carried out
  have hfin : ∀ (listed : Array Bool) (a : Act) (w : World) (G : Gh), listed.size = ops.length → (∀ i, i < ops.length → listed.getD i false = true) → G0.Le G →
      StRel N G (slotsAt (fun j => listed.getD j false) ops es 0 t) (heapAt (fun j => listed.getD j false) es 0 h) a w → Q .normal a w := by
    intro listed a w G hsz hall hle st
    refine hQ G a w hle (st.same (fun i => ?_) fun id => ?_)
    · refine slotsAt_agree rfl fun j o ho hne => ?_
      have := hall j (List.getElem?_eq_some_iff.1 ho).1
      simp [this] at hne
    · refine heapAt_agree rfl fun j e he hne => ?_
      have := hall j (by rw [← hel]; exact (List.getElem?_eq_some_iff.1 he).1)
      simp [this] at hne
  -- where none is ready, none is left
  have hready : ∀ (listed : Array Bool), listed.size = ops.length → Region.ready .any ops.toArray listed = [] → ∀ i, i < ops.length → listed.getD i false = true := by
    intro listed hsz hr i
    induction i using Nat.strongRecOn with
    | _ i ih =>
      intro hi
      by_cases hl : listed.getD i false = true
      · exact hl
      · exfalso
        have hlf : listed.getD i true = false := by
          have hi' : i < listed.size := by rw [hsz]; exact hi
          rw [Array.getD_eq_getD_getElem?, Array.getElem?_eq_getElem hi'] at hl ⊢
          simpa using hl
        have hmem : i ∈ Region.ready .any ops.toArray listed := by
          refine mem_ready.2 ⟨hlf, ops[i], by simp [hi], fun e he hb => ?_⟩
          have ho : ops[i]? = some ops[i] := List.getElem?_eq_getElem hi
          have h1 := hon i _ ho e he hb
          exact ih e.on h1 (by omega)
        rw [hr] at hmem
        cases hmem
  intro fuel
  induction fuel with
  | zero =>
    intro listed a w G hsz hcl hcnt hle st
    have hall : ∀ i, i < ops.length → listed.getD i false = true := by
      intro i hi
      have hi' : i < listed.size := by rw [hsz]; exact hi
      have h0 := List.countP_eq_zero.1 hcnt (listed[i]) (by simp)
      rw [Array.getD_eq_getD_getElem?, Array.getElem?_eq_getElem hi']
      simpa using h0
    refine ⟨?_, hfin listed a w G hsz hall hle st⟩
    rw [List.eq_nil_iff_forall_not_mem]
    intro i hi
    obtain ⟨h1, o, ho, _⟩ := mem_ready.1 hi
    have h2 := hall i (by simpa using (Array.getElem?_eq_some_iff.1 ho).1)
    have := (getD_true h1).1
    rw [h2] at this
    cases this
  | succ fuel ih =>
    intro listed a w G hsz hcl hcnt hle st
    refine ⟨fun hr => hfin listed a w G hsz (hready listed hsz hr) hle st, fun i hi => ?_⟩
    obtain ⟨hun, o, ho', hprev⟩ := mem_ready.1 hi
    obtain ⟨hunf, hisz⟩ := getD_true hun
    have ho : ops[i]? = some o := by simpa using ho'
    have him : i < ops.length := by rw [← hsz]; exact hisz
    obtain ⟨e, he, hE⟩ := hC.at 0 i ho
    rw [Nat.zero_add] at hE
    -- an operation of which the set differs from the text's beginning is not ordered against this one
    have hun2 : ∀ (j : Nat) (oj : Oper), ops[j]? = some oj → listed.getD j false ≠ decide (j < i) → (reachB ops ops.length j i = false ∧ j < i) ∨ (reachB ops ops.length i j = false ∧ i < j) := by
      intro j oj hj hne
      by_cases hji : j < i
      · left
        refine ⟨?_, hji⟩
        have hlj : listed.getD j false = false := by
          have : decide (j < i) = true := by simpa using hji
          rw [this] at hne
          simpa using hne
        cases hr : reachB ops ops.length j i with
        | false => rfl
        | true => have := reach_listed hcl _ j i o ho hprev hr; rw [hlj] at this; cases this
      · by_cases hji2 : j = i
        · subst hji2; rw [hunf] at hne; simp at hne
        · right
          refine ⟨?_, by omega⟩
          have hlj : listed.getD j false = true := by
            have : decide (j < i) = false := by simpa using hji
            rw [this] at hne
            simpa using hne
          cases hr : reachB ops ops.length i j with
          | false => rfl
          | true => have := reach_listed hcl _ i j oj hj (hcl j oj hlj hj) hr; rw [hunf] at this; cases this
    have hapart : ∀ (j : Nat) (oj : Oper), ops[j]? = some oj → listed.getD j false ≠ decide (j < i) → (∀ d, oj.dst = some d → d ∉ o.looksAt ops.toArray) ∧ (∀ d, o.dst = some d → oj.dst ≠ some d) := by
      intro j oj hj hne
      rcases hun2 j oj hj hne with ⟨h1, h2⟩ | ⟨h1, h2⟩
      · have := hap i him j h2
        rw [h1, hj, ho] at this
        obtain ⟨a1, a2, a3⟩ := Oper.apart_spec (this.resolve_left (by simp))
        exact ⟨a1, fun d hd e => a2 d e hd⟩
      · have hjm : j < ops.length := (List.getElem?_eq_some_iff.1 hj).1
        have := hap j hjm i h2
        rw [h1, hj, ho] at this
        obtain ⟨a1, a2, a3⟩ := Oper.apart_spec (this.resolve_left (by simp))
        exact ⟨a3, a2⟩
    have hdisj : ∀ (j : Nat) (ej : Ef), es[j]? = some ej → listed.getD j false ≠ decide (j < i) → (∀ id ∈ wids ej, id ∉ rids e ∧ id ∉ wids e) := by
      intro j ej hej hne
      have hjm : j < ops.length := by rw [← hel]; exact (List.getElem?_eq_some_iff.1 hej).1
      have hj : ops[j]? = some ops[j] := List.getElem?_eq_getElem hjm
      have key : ∀ (x y : Nat) (ox oy : Oper) (ex ey : Ef), x < y → ops[x]? = some ox → ops[y]? = some oy → es[x]? = some ex → es[y]? = some ey → reachB ops ops.length x y = false → EDisj ex ey := by
        intro x y ox oy ex ey hxy hox hoy hex hey hr
        by_cases hm : (mayWrite ox.op || mayWrite oy.op) = true
        · refine disAll_mem (p := (x, y)) hD ?_ hex hey
          unfold unord
          rw [List.mem_flatMap]
          refine ⟨y, List.mem_range.2 (List.getElem?_eq_some_iff.1 hoy).1, ?_⟩
          rw [List.mem_filterMap]
          refine ⟨x, List.mem_range.2 hxy, ?_⟩
          rw [hr, hox, hoy]
          simp only [Bool.false_eq_true, if_false]
          rw [if_pos hm]
        · simp only [Bool.or_eq_true, not_or, Bool.not_eq_true] at hm
          have w1 := writesOk_at x hW hox hex hm.1
          have w2 := writesOk_at y hW hoy hey hm.2
          refine ⟨fun id hid => ?_, fun id hid => ?_⟩
          · simp [wids, w1] at hid
          · simp [wids, w2] at hid
      rcases hun2 j _ hj hne with ⟨h1, h2⟩ | ⟨h1, h2⟩
      · exact (key j i _ _ _ _ h2 hj ho hej he h1).1
      · have := key i j _ _ _ _ h2 ho hj he hej h1
        exact fun id hid => ⟨this.2 id hid, fun hm => (this.1 id hm).2 hid⟩
    -- what it sees is what it saw in the text's order
    have hlook : ∀ x, x ∈ o.looksAt ops.toArray → look (slotsAt (fun j => listed.getD j false) ops es 0 t) x = look (slotsAt (fun j => decide (j < i)) ops es 0 t) x := by
      intro x hx
      refine slotsAt_agree rfl fun j oj hj hne => ?_
      rw [Nat.zero_add] at hne
      exact fun hd => (hapart j oj hj hne).1 x hd hx
    have hheap : ∀ id, id ∈ rids e ∨ id ∈ wids e → heapAt (fun j => listed.getD j false) es 0 h id = heapAt (fun j => decide (j < i)) es 0 h id := by
      intro id hid
      refine heapAt_agree rfl fun j ej hej hne => ?_
      rw [Nat.zero_add] at hne
      intro hw
      have := hdisj j ej hej hne id hw
      rcases hid with h | h
      · exact this.1 h
      · exact this.2 h
    obtain ⟨hfit, hwant, hoff, hrun⟩ := hE
    have hev : ∀ x ∈ o.op.operands, aev (slotsAt (fun j => listed.getD j false) ops es 0 t) x = aev (slotsAt (fun j => decide (j < i)) ops es 0 t) x := by
      intro x hx
      cases x with
      | tmp d => exact hlook d (List.mem_append_left _ (List.mem_filterMap.2 ⟨.tmp d, by simpa using hx, rfl⟩))
      | _ => rfl
    have hwant' : awanted ops (slotsAt (fun j => listed.getD j false) ops es 0 t) o = some e.on := by
      rw [← hwant]
      unfold awanted
      cases hg : o.guard with
      | none => rfl
      | some q =>
        obtain ⟨j, want⟩ := q
        simp only
        cases hd : (ops[j]?).bind (·.dst) with
        | none => rfl
        | some d =>
          simp only
          rw [hlook d (List.mem_append_right _ (by simp [hg, hd]))]
    -- and what it leaves is the state of one more
    have hset : ∀ j, (listed.setIfInBounds i true).getD j false = if j = i then true else listed.getD j false := by
      intro j
      rw [Array.getD_eq_getD_getElem?, Array.getD_eq_getD_getElem?, Array.getElem?_setIfInBounds]
      by_cases e1 : i = j
      · subst e1; simp [hisz]
      · rw [if_neg e1, if_neg (fun e => e1 e.symm)]
    have hS1 : ∀ x, look (slotsAt (fun j => (listed.setIfInBounds i true).getD j false) ops es 0 t) x = look (aput (slotsAt (fun j => listed.getD j false) ops es 0 t) o.dst e.v) x := by
      intro x
      by_cases hx : o.dst = some x
      · rw [hx, look_aput, if_pos rfl]
        refine slotsAt_last ho he (by rw [Nat.zero_add, hset]; simp) hx fun j oj hij hj hSj => ?_
        rw [Nat.zero_add, hset, if_neg (by omega)] at hSj
        exact (hapart j oj hj (by rw [hSj]; simp; omega)).2 x hx
      · rw [look_aput_ne hx]
        refine slotsAt_agree rfl fun j oj hj hne => ?_
        rw [Nat.zero_add, hset] at hne
        by_cases e1 : j = i
        · subst e1; rw [ho] at hj; cases hj; exact hx
        · rw [if_neg e1] at hne; exact absurd rfl hne
    have hH1 : ∀ id, heapAt (fun j => (listed.setIfInBounds i true).getD j false) es 0 h id = hp (heapAt (fun j => listed.getD j false) es 0 h) e.wr id := by
      intro id
      by_cases hid : id ∈ wids e
      · refine heapAt_last he (by rw [Nat.zero_add, hset]; simp) hid fun j ej hij hej hSj => ?_
        rw [Nat.zero_add, hset, if_neg (by omega)] at hSj
        intro hw
        exact (hdisj j ej hej (by rw [hSj]; simp; omega) id hw).2 hid
      · rw [hp_ne fun p hp e1 => hid (List.mem_map.2 ⟨p, hp, e1⟩)]
        refine heapAt_agree rfl fun j ej hej hne => ?_
        rw [Nat.zero_add, hset] at hne
        by_cases e1 : j = i
        · subst e1; rw [he] at hej; cases hej; exact hid
        · rw [if_neg e1] at hne; exact absurd rfl hne
    have hclosed : Closed ops (listed.setIfInBounds i true) := by
      intro j oj hj hoj e' he' hb
      rw [hset] at hj ⊢
      by_cases e1 : e'.on = i
      · rw [if_pos e1]
      · rw [if_neg e1]
        by_cases e2 : j = i
        · subst e2; rw [ho] at hoj; cases hoj; exact hprev e' he' hb
        · rw [if_neg e2] at hj; exact hcl j oj hj hoj e' he' hb
    have hcount : (listed.setIfInBounds i true).toList.countP (fun b => !b) = fuel := by
      rw [Array.toList_setIfInBounds, List.countP_set (by simpa using hisz)]
      have : listed.toList[i]'(by simpa using hisz) = false := by
        have := hunf
        rw [Array.getD_eq_getD_getElem?, Array.getElem?_eq_getElem hisz] at this
        simpa using this
      rw [this]
      simp only [Bool.not_false, if_true, Bool.not_true, Bool.false_eq_true, if_false]
      omega
    have next : ∀ (u : Value) (G' : Gh) (w' : World), G.Le G' → HRel G' (hp (heapAt (fun j => listed.getD j false) es 0 h) e.wr) w' → Rel G' e.v u →
        wpAny P .any ops.toArray Q fuel (listed.setIfInBounds i true) (a.put o.dst u) w' := by
      intro u G' w' hl hh hv
      refine ih _ _ w' G' (by simpa using hsz) hclosed hcount (hle.trans hl) ?_
      exact (st.put hl hh hfit hv).same hS1 hH1
    have hfresh : ∃ m, ∀ k, m ≤ k → heapAt (fun j => listed.getD j false) es 0 h k = none := by
      obtain ⟨m, hm⟩ := hB
      refine ⟨m, fun k hk => ?_⟩
      have e1 : heapAt (fun j => listed.getD j false) es 0 h k = heapAt (fun _ => false) es 0 h k :=
        heapAt_agree rfl fun j ej hej _ => (hm k hk).2 ej (List.mem_of_getElem? hej)
      have none_ : ∀ (es : List Ef) (i : Nat) (h : AHeap), heapAt (fun _ => false) es i h = h := by
        intro es
        induction es with
        | nil => intro i h; rfl
        | cons e es ih => intro i h; simp [heapAt, ih]
      rw [e1, none_]; exact (hm k hk).1
    unfold wpOp
    simp only [ho']
    cases hb : e.on with
    | true =>
      rw [if_pos (by rw [awanted_run st hwant', hb])]
      obtain ⟨r1, r2, r3⟩ := hrun hb
      refine .inl (r3 _ _ hev ?_ ?_ hfresh st.heap st.ev next)
      · intro p hp'
        rw [hheap p.1 (.inl (List.mem_map.2 ⟨p, hp', rfl⟩))]; exact r1 p hp'
      · intro p hp'
        rcases r2 p hp' with h1 | h1
        · exact .inl h1
        · exact .inr (by rw [hheap p.1 (.inr (List.mem_map.2 ⟨p, hp', rfl⟩))]; exact h1)
    | false =>
      rw [if_neg (by rw [awanted_run st hwant', hb]; simp)]
      obtain ⟨q1, q2⟩ := hoff hb
      refine next undef G w (.refl G) ?_ (by rw [q2]; exact rel_val)
      rw [q1]; exact st.heap

end Go.AM
