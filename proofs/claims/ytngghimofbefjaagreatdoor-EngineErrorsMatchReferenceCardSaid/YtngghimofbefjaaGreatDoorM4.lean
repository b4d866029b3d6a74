/- The logic of abstract heaps for Go programs, merged out of several texts. -/
import Derived.Test.YtngghimofbefjaaGreatDoorM3
import Derived.KernelRfl
import Derived.RangeFuncIn
import Derived.Leaving
import Derived.Conc.Holds
import Derived.Handed
import Derived.SevenTiedAt
/- Which operations of a drawn region stand in no order, by bit masks. -/
noncomputable section
namespace Go.AM
set_option linter.unusedVariables false
set_option linter.unusedSimpArgs false
open Go Go.RowKit
set_option linter.unusedSectionVars false
set_option linter.unusedVariables false
variable [Glob]

theorem hasB_eq (m i : Nat) : hasB m i = m.testBit i := by
  unfold hasB
  rw [beq_dec, Nat.testBit_eq_decide_div_mod_eq]
  show decide ((m >>> i) % 2 = 1) = _
  rw [Nat.shiftRight_eq_div_pow]

theorem bitM_test (d i : Nat) : (bitM d).testBit i = decide (d = i) := by
  show (1 <<< d : Nat).testBit i = _
  rw [Nat.one_shiftLeft, Nat.testBit_two_pow]

theorem lor_test (x y i : Nat) : (Nat.lor x y).testBit i = (x.testBit i || y.testBit i) := Nat.testBit_or x y i

theorem land_zero {x y i : Nat} (h : Nat.land x y = 0) (hx : x.testBit i = true) : y.testBit i = false := by
  have h1 : (x &&& y).testBit i = false := by
    have : (x &&& y) = 0 := h
    rw [this]; exact Nat.zero_testBit i
  rw [Nat.testBit_and, hx, Bool.true_and] at h1
  exact h1

theorem bind1_eq (e : Edge) : bind1 e = Region.binds .any e := by
  unfold bind1 Region.binds
  cases e.ground <;> rfl

theorem reachB_mono {ops : List Oper} : ∀ {f f' j i : Nat}, f ≤ f' → reachB ops f j i = true → reachB ops f' j i = true
  | 0, _, _, _, _, h => by simp [reachB] at h
  | f + 1, 0, _, _, hle, _ => by omega
  | f + 1, f' + 1, j, i, hle, h => by
    simp only [reachB] at h ⊢
    split at h
    · rename_i o ho
      simp only [List.any_eq_true, Bool.and_eq_true, Bool.or_eq_true] at h ⊢
      obtain ⟨e, he, hb, h⟩ := h
      refine ⟨e, he, hb, ?_⟩
      rcases h with h | h
      · exact .inl h
      · exact .inr (reachB_mono (by omega) h)
    · cases h

/-- What the row of an operation tells. -/
structure RIok (ops : List Oper) (i : Nat) (o : Oper) (ri : RI) : Prop where
  w : ri.w = mayWrite o.op
  dst : ∀ d, o.dst = some d → ri.dst.testBit d = true
  looks : ∀ d ∈ o.looksAt ops.toArray, ri.looks.testBit d = true
  anc : ∀ m, ri.anc.testBit m = true → reachB ops (i + 1) m i = true

def Accok (ops : List Oper) (acc : List RI) (j : Nat) : Prop := acc.length = j ∧ ∀ (i : Nat) (o : Oper) (ri : RI), ops[i]? = some o → acc[i]? = some ri → RIok ops i o ri

theorem ancOf_some {acc : List RI} {i m : Nat} (h : (ancOf acc i).testBit m = true) : ∃ ri, acc[i]? = some ri ∧ ri.anc.testBit m = true := by
  unfold ancOf at h
  rw [nth_eq] at h
  split at h
  · rename_i r hr; exact ⟨r, hr, h⟩
  · rw [Nat.zero_testBit] at h; cases h

theorem edgM_some {acc : List RI} {m : Nat} : ∀ {es : List Edge}, (edgM acc es).testBit m = true → ∃ e ∈ es, Region.binds .any e = true ∧ (e.on = m ∨ (ancOf acc e.on).testBit m = true)
  | [], h => by simp only [edgM] at h; rw [Nat.zero_testBit] at h; cases h
  | e :: r, h => by
    simp only [edgM] at h
    cases hb : bind1 e with
    | true =>
      rw [hb] at h
      simp only at h
      rw [lor_test, lor_test, bitM_test, Bool.or_eq_true, Bool.or_eq_true, decide_eq_true_eq] at h
      rcases h with (h | h) | h
      · exact ⟨e, by simp, by rw [← bind1_eq]; exact hb, .inl h⟩
      · exact ⟨e, by simp, by rw [← bind1_eq]; exact hb, .inr h⟩
      · obtain ⟨e', h1, h2⟩ := edgM_some h
        exact ⟨e', by simp [h1], h2⟩
    | false =>
      rw [hb] at h
      obtain ⟨e', h1, h2⟩ := edgM_some h
      exact ⟨e', by simp [h1], h2⟩

theorem edgLt_some {j : Nat} : ∀ {es : List Edge}, edgLt j es = true → ∀ e ∈ es, Region.binds .any e = true → e.on < j
  | [], _, e, he, _ => by cases he
  | e :: r, h, e', he', hb' => by
    simp only [edgLt] at h
    cases hb : bind1 e with
    | true =>
      rw [hb] at h
      simp only at h
      split at h
      · rename_i hlt
        cases he' with
        | head => exact Nat.le_of_ble_eq_true hlt
        | tail _ he' => exact edgLt_some h e' he' hb'
      · cases h
    | false =>
      rw [hb] at h
      cases he' with
      | head => rw [← bind1_eq, hb] at hb'; cases hb'
      | tail _ he' => exact edgLt_some h e' he' hb'

theorem opdsM_test {d : Nat} : ∀ {xs : List Operand}, Operand.tmp d ∈ xs → (opdsM xs).testBit d = true
  | [], h => by cases h
  | x :: xs, h => by
    cases h with
    | head =>
      simp only [opdsM]
      rw [lor_test, bitM_test]; simp
    | tail _ h =>
      have := opdsM_test h
      cases x with
      | tmp t => simp only [opdsM]; rw [lor_test, this, Bool.or_true]
      | _ => simp only [opdsM]; exact this

theorem looksM_test {ops : List Oper} {o : Oper} {d : Nat} (h : d ∈ o.looksAt ops.toArray) : (looksM ops o).testBit d = true := by
  unfold Oper.looksAt at h
  rcases List.mem_append.1 h with h | h
  · have h1 : (opdsM o.op.operands.toList).testBit d = true := by
      obtain ⟨x, hx, e⟩ := List.mem_filterMap.1 h
      cases x with
      | tmp t => simp only [Option.some.injEq] at e; subst e; exact opdsM_test hx
      | _ => cases e
    unfold looksM
    split
    · split
      · rw [lor_test, h1]; rfl
      · exact h1
    · exact h1
  · split at h
    · rename_i g w hg
      unfold looksM
      rw [hg]
      simp only
      rw [nth_eq]
      have e1 : ops.toArray[g]? = ops[g]? := by simp
      rw [e1] at h
      cases hx : ops[g]? with
      | none => rw [hx] at h; simp at h
      | some x =>
        rw [hx] at h
        simp only [Option.bind_some, Option.mem_toList] at h
        simp only
        rw [lor_test]
        have : x.dst = some d := by simpa using h
        rw [this]
        simp only [dstM]
        rw [bitM_test]; simp
    · cases h

theorem rowM_some {y : RI} : ∀ {acc : List RI} {i0 : Nat}, rowM y acc i0 = true → ∀ (i : Nat) (x : RI), acc[i]? = some x → y.anc.testBit (i0 + i) = true ∨ (Nat.land x.looks y.dst = 0 ∧ Nat.land y.looks x.dst = 0 ∧ Nat.land x.dst y.dst = 0)
  | [], _, _, i, x, hx => by simp at hx
  | a :: acc, i0, h, i, x, hx => by
    simp only [rowM] at h
    have step : (hasB y.anc i0 = true ∨ (Nat.land a.looks y.dst = 0 ∧ Nat.land y.looks a.dst = 0 ∧ Nat.land a.dst y.dst = 0)) ∧ rowM y acc (i0 + 1) = true := by
      split at h
      · rename_i hb; exact ⟨.inl hb, h⟩
      · split at h
        · rename_i hz
          have hz' := Nat.eq_of_beq_eq_true hz
          have e1 : (Nat.land a.looks y.dst ||| Nat.land y.looks a.dst) ||| Nat.land a.dst y.dst = 0 := hz'
          rw [Nat.or_eq_zero_iff, Nat.or_eq_zero_iff] at e1
          exact ⟨.inr ⟨e1.1.1, e1.1.2, e1.2⟩, h⟩
        · cases h
    cases i with
    | zero =>
      simp at hx; subst hx
      rcases step.1 with h1 | h1
      · left; rw [← hasB_eq]; exact h1
      · exact .inr h1
    | succ i =>
      have := rowM_some step.2 i x (by simpa using hx)
      rwa [show i0 + 1 + i = i0 + (i + 1) by omega] at this

theorem unoM_sub {y : RI} {j : Nat} : ∀ {acc : List RI} {i0 : Nat} {us : List (Nat × Nat)}, ∀ p ∈ us, p ∈ unoM y j acc i0 us
  | [], _, _, p, hp => hp
  | a :: acc, i0, us, p, hp => by
    simp only [unoM]
    split
    · exact unoM_sub p hp
    · split
      · exact unoM_sub p (List.mem_cons_of_mem _ hp)
      · split
        · exact unoM_sub p (List.mem_cons_of_mem _ hp)
        · exact unoM_sub p hp

theorem unoM_mem {y : RI} {j : Nat} : ∀ {acc : List RI} {i0 : Nat} {us : List (Nat × Nat)} (i : Nat) (x : RI), acc[i]? = some x → y.anc.testBit (i0 + i) = false → (x.w = true ∨ y.w = true) → (i0 + i, j) ∈ unoM y j acc i0 us
  | [], _, _, i, x, hx, _, _ => by simp at hx
  | a :: acc, i0, us, i, x, hx, ha, hw => by
    simp only [unoM]
    cases i with
    | zero =>
      simp at hx; subst hx
      rw [hasB_eq, show y.anc.testBit i0 = false from ha]
      simp only
      cases hxw : a.w with
      | true => exact unoM_sub _ (by simp)
      | false =>
        rcases hw with h | h
        · rw [hxw] at h; cases h
        · rw [h]; exact unoM_sub _ (by simp)
    | succ i =>
      have key : ∀ us, (i0 + (i + 1), j) ∈ unoM y j acc (i0 + 1) us := fun us => by
        have := unoM_mem (acc := acc) (i0 := i0 + 1) (us := us) (y := y) (j := j) i x (by simpa using hx) (by rw [show i0 + 1 + i = i0 + (i + 1) by omega]; exact ha) hw
        rwa [show i0 + 1 + i = i0 + (i + 1) by omega] at this
      split
      · exact key _
      · split
        · exact key _
        · split
          · exact key _
          · exact key _

/-- What is known of one place of the region. -/
def PlaceOk (ops : List Oper) (us : List (Nat × Nat)) (j : Nat) : Prop := ∀ o, ops[j]? = some o → (∀ e ∈ o.after.toList, Region.binds .any e = true → e.on < j) ∧
  ∀ i, i < j → ∀ x, ops[i]? = some x → (reachB ops ops.length i j = true ∨ x.apart ops.toArray o = true) ∧ (reachB ops ops.length i j = false → (mayWrite x.op || mayWrite o.op) = true → (i, j) ∈ us)

theorem forceM_some {n : Nat} {k : Nat → Option (List (Nat × Nat))} {r : List (Nat × Nat)} (h : forceM n k = some r) : k n = some r := by
  unfold forceM at h
  split at h <;> exact h

theorem apart_of {ops : List Oper} {i j : Nat} {x o : Oper} {rx ry : RI} (hx : RIok ops i x rx) (hy : RIok ops j o ry) (h1 : Nat.land rx.looks ry.dst = 0) (h2 : Nat.land ry.looks rx.dst = 0) (h3 : Nat.land rx.dst ry.dst = 0) : x.apart ops.toArray o = true := by
  have no : ∀ {d : Nat}, x.dst = some d → d ∉ o.looksAt ops.toArray ∧ o.dst ≠ some d := fun {d} hd => by
    have q := hx.dst d hd
    refine ⟨fun hm => ?_, fun e => ?_⟩
    · have := land_zero h2 (hy.looks d hm); rw [q] at this; cases this
    · have := land_zero h3 q; rw [hy.dst d e] at this; cases this
  have no2 : ∀ {d : Nat}, o.dst = some d → d ∉ x.looksAt ops.toArray := fun {d} hd hm => by
    have := land_zero h1 (hx.looks d hm); rw [hy.dst d hd] at this; cases this
  unfold Oper.apart
  rw [Bool.and_eq_true]
  constructor
  · cases hd : x.dst with
    | none => rfl
    | some d =>
      have := no hd
      simp only [Bool.and_eq_true, Bool.not_eq_true', bne_iff_ne, ne_eq]
      exact ⟨by simpa using this.1, this.2⟩
  · cases hd : o.dst with
    | none => rfl
    | some d =>
      have := no2 hd
      simp only [Bool.not_eq_true']
      simpa using this

theorem statM_ok {ops : List Oper} : ∀ {rest : List Oper} {j : Nat} {acc : List RI} {us us' : List (Nat × Nat)}, Accok ops acc j → rest = ops.drop j → statM ops rest j acc us = some us' → (∀ p ∈ us, p ∈ us') ∧ ∀ jj, j ≤ jj → PlaceOk ops us' jj
  | [], j, acc, us, us', hA, hr, h => by
    simp only [statM] at h
    cases h
    refine ⟨fun p hp => hp, fun jj hj o ho => ?_⟩
    have : ops.length ≤ j := List.drop_eq_nil_iff.1 hr.symm
    have := (List.getElem?_eq_some_iff.1 ho).1
    omega
  | o :: rest, j, acc, us, us', hA, hr, h => by
    have hoj : ops[j]? = some o := by
      have : (ops.drop j)[0]? = some o := by rw [← hr]; rfl
      rw [List.getElem?_drop] at this
      simpa using this
    have hjl : j < ops.length := (List.getElem?_eq_some_iff.1 hoj).1
    have hrest : rest = ops.drop (j + 1) := by
      have : (ops.drop j).drop 1 = rest := by rw [← hr]; rfl
      rw [List.drop_drop] at this
      exact this.symm
    simp only [statM] at h
    split at h
    · rename_i hlt
      have h := forceM_some (forceM_some (forceM_some h))
      have main : ∀ (w : Bool), w = mayWrite o.op → rowM ⟨edgM acc o.after.toList, looksM ops o, dstM o.dst, w⟩ acc 0 = true →
          statM ops rest (j + 1) (acc ++ [⟨edgM acc o.after.toList, looksM ops o, dstM o.dst, w⟩]) (unoM ⟨edgM acc o.after.toList, looksM ops o, dstM o.dst, w⟩ j acc 0 us) = some us' → (∀ p ∈ us, p ∈ us') ∧ ∀ jj, j ≤ jj → PlaceOk ops us' jj := by
        intro w hw hrow hs
        have hRI : RIok ops j o ⟨edgM acc o.after.toList, looksM ops o, dstM o.dst, w⟩ := by
          refine ⟨hw, fun d hd => ?_, fun d hd => looksM_test hd, fun m hm => ?_⟩
          · rw [hd]; simp only [dstM]; rw [bitM_test]; simp
          · obtain ⟨e, he, hb, h⟩ := edgM_some hm
            simp only [reachB, hoj, List.any_eq_true, Bool.and_eq_true, Bool.or_eq_true, beq_iff_eq]
            have hon := edgLt_some hlt e he hb
            refine ⟨e, he, hb, ?_⟩
            rcases h with h | h
            · exact .inl h
            · obtain ⟨ri, h1, h2⟩ := ancOf_some h
              have ho' : ops[e.on]? = some (ops[e.on]'(by omega)) := List.getElem?_eq_getElem (by omega)
              exact .inr (reachB_mono (by omega) ((hA.2 e.on _ ri ho' h1).anc m h2))
        have hA' : Accok ops (acc ++ [⟨edgM acc o.after.toList, looksM ops o, dstM o.dst, w⟩]) (j + 1) := by
          refine ⟨by simp [hA.1], fun i x ri hx hri => ?_⟩
          by_cases hi : i < acc.length
          · rw [List.getElem?_append_left hi] at hri
            exact hA.2 i x ri hx hri
          · rw [List.getElem?_append_right (by omega)] at hri
            have e0 : i - acc.length = 0 := by
              by_cases e : i - acc.length = 0
              · exact e
              · exfalso
                rw [show i - acc.length = (i - acc.length - 1) + 1 by omega] at hri
                simp at hri
            rw [e0] at hri
            simp at hri
            subst hri
            have : i = j := by have := hA.1; omega
            subst this
            rw [hoj] at hx; cases hx
            exact hRI
        obtain ⟨q1, q2⟩ := statM_ok hA' hrest hs
        refine ⟨fun p hp => q1 p (unoM_sub p hp), fun jj hj => ?_⟩
        by_cases e : jj = j
        · subst e
          intro o' ho'
          rw [hoj] at ho'; cases ho'
          refine ⟨edgLt_some hlt, fun i hi x hx => ?_⟩
          have hil : i < acc.length := by rw [hA.1]; exact hi
          have hxi : acc[i]? = some acc[i] := List.getElem?_eq_getElem hil
          have hrx := hA.2 i x _ hx hxi
          refine ⟨?_, fun hre hmw => ?_⟩
          · rcases rowM_some hrow i _ hxi with h1 | ⟨h1, h2, h3⟩
            · rw [Nat.zero_add] at h1
              exact .inl (reachB_mono (by omega) (hRI.anc i h1))
            · exact .inr (apart_of hrx hRI h1 h2 h3)
          · have hna : (edgM acc o.after.toList).testBit i = false := by
              cases hb : (edgM acc o.after.toList).testBit i with
              | false => rfl
              | true =>
                have := reachB_mono (f' := ops.length) (by omega) (hRI.anc i hb)
                rw [hre] at this; cases this
            have := unoM_mem (y := ⟨edgM acc o.after.toList, looksM ops o, dstM o.dst, w⟩) (j := jj) (i0 := 0) (us := us) i _ hxi (by rw [Nat.zero_add]; exact hna) (by
              rw [hrx.w]
              simp only
              rw [hw]
              simpa using hmw)
            rw [Nat.zero_add] at this
            exact q1 _ this
        · exact q2 jj (by omega)
      split at h
      · rename_i hw
        split at h
        · rename_i hrow; exact main true hw.symm hrow h
        · cases h
      · rename_i hw
        split at h
        · rename_i hrow; exact main false hw.symm hrow h
        · cases h
    · cases h

theorem statM_sound {ops : List Oper} {us : List (Nat × Nat)} (h : statM ops ops 0 [] [] = some us) : statB ops = true ∧ ∀ p ∈ unord ops, p ∈ us := by
  obtain ⟨_, hp⟩ := statM_ok (j := 0) (acc := []) ⟨rfl, fun i o ri _ h => by simp at h⟩ (by simp) h
  refine ⟨?_, fun p hm => ?_⟩
  · simp only [statB, Bool.and_eq_true, List.all_eq_true, List.mem_range, Bool.or_eq_true]
    refine ⟨fun q hq e he => ?_, fun j hj i hi => ?_⟩
    · obtain ⟨o, i⟩ := q
      rw [List.mem_zipIdx_iff_getElem?] at hq
      have := (hp i (by omega) o hq).1 e he
      cases hb : Region.binds .any e with
      | false => simp
      | true => right; exact decide_eq_true (this hb)
    · have hoj : ops[j]? = some ops[j] := List.getElem?_eq_getElem hj
      have hxi : ops[i]? = some (ops[i]'(by omega)) := List.getElem?_eq_getElem (by omega)
      have := ((hp j (by omega) _ hoj).2 i hi _ hxi).1
      rw [hoj, hxi]
      exact this
  · unfold unord at hm
    rw [List.mem_flatMap] at hm
    obtain ⟨j, hj, hm⟩ := hm
    rw [List.mem_filterMap] at hm
    obtain ⟨i, hi, hm⟩ := hm
    rw [List.mem_range] at hj hi
    have hoj : ops[j]? = some ops[j] := List.getElem?_eq_getElem hj
    have hxi : ops[i]? = some (ops[i]'(by omega)) := List.getElem?_eq_getElem (by omega)
    split at hm
    · cases hm
    · rename_i hre
      rw [hoj, hxi] at hm
      simp only at hm
      split at hm
      · rename_i hmw
        cases hm
        exact ((hp j (by omega) _ hoj).2 i hi _ hxi).2 (by simpa using hre) hmw
      · cases hm

end Go.AM

/- Code and calls: the evaluator is right. -/
noncomputable section
namespace Go.AM
set_option linter.unusedVariables false
set_option linter.unusedSimpArgs false
open Go Go.RowKit
set_option linter.unusedSectionVars false
set_option linter.unusedVariables false
variable [Glob]

/-- An object that stands apart is turned, and no longer looked at. -/
theorem HRel.dropOut {G : Gh} {h : AHeap} {w : World} (H : HRel G h w) {b : Nat} {ob ob' : Obj} {os : List (Nat × Obj)} (hout : G.out = (b, ob) :: os) (hne : ∀ p ∈ os, p.1 ≠ b) : HRel { G with out := os } h (w.putObj b ob') := by
  have hbm : (b, ob) ∈ G.out := by rw [hout]; exact List.mem_cons_self ..
  obtain ⟨m1, m2, m3⟩ := H.outs _ hbm
  simp only at m1 m2 m3
  have hg : w.grownBy (w.putObj b ob') (some b) := grownBy_putObj' w b _
  have hoth : ∀ k, k ≠ b → (w.putObj b ob').heap[k]? = w.heap[k]? := fun k hk => World.putObj_heap_other hk
  refine ⟨H.below.grown hg H.below.size (fun g e => by cases e; exact m1), fun k o v hv => ?_, fun id k hk => ?_, ?_, H.dom, H.top, H.glb, fun x hx => ?_, fun p hp => ?_, fun x hx p hp => H.apt x hx p (by rw [hout]; exact List.mem_cons_of_mem _ hp)⟩
  · obtain ⟨h1, h2⟩ := H.imm k o v hv
    refine ⟨?_, h2⟩
    have hk : k ≠ b := fun e => by
      subst e
      unfold World.cell? at h1
      rw [show w.heap[(⟨k, o, none⟩ : Addr).block]? = some _ from m2] at h1
      cases ob with
      | cells => simp [isRow] at m3
      | _ => cases h1
    rw [World.cell?_of_block (w := w) (a := ⟨k, o, none⟩) (hoth k hk)]; exact h1
  · have := H.blk id k hk
    cases k with
    | row ver e sz es =>
      obtain ⟨v, xs, a1, a2, a3⟩ := this
      refine ⟨v, xs, a1, a2.kept hg ?_, ?_⟩
      · cases hv : v.ownBlock with
        | none => exact .inl rfl
        | some g => exact .inr fun e => (H.mk_own a2 hv).2 _ hbm (Option.some.inj e).symm
      · obtain ⟨q1, q2⟩ := a3
        exact ⟨RelL.same (G := G) (G' := { G with out := os }) rfl rfl q1, q2⟩
    | mp ver es =>
      obtain ⟨c, a1, a2, ⟨ents, clock, a3, a4, a5⟩, a6⟩ := this
      refine ⟨c, a1, a2, ⟨ents, clock, ?_, a4, RelL.same (G := G) (G' := { G with out := os }) rfl rfl a5⟩, a6⟩
      rw [hoth c fun e => (H.mk_ne a3 rfl).2 _ hbm e.symm]; exact a3
  · exact H.sep
  · obtain ⟨q1, q2⟩ := H.mks x hx
    exact ⟨q1, by rw [hoth x fun e => H.apt x hx _ hbm e.symm]; exact q2⟩
  · obtain ⟨q1, q2, q3⟩ := H.outs p (by rw [hout]; exact List.mem_cons_of_mem _ hp)
    exact ⟨q1, by rw [hoth p.1 (hne p hp)]; exact q2, q3⟩


theorem HRel.addMark {G : Gh} {h : AHeap} {w : World} (H : HRel G h w) {b c : Nat} {o : Obj} (hb : w.heap[b]? = some (.deferred (some []))) (hc : w.heap[c]? = some o) (hbc : c ≠ b) (hr : isRow o = false) (h1 : G.w0.heap.size ≤ b) (h2 : G.w0.heap.size ≤ c)
    (hn1 : ∀ p ∈ G.out, p.1 ≠ b) (hn2 : ∀ x ∈ G.mks, c ≠ x) : HRel { G with mks := b :: G.mks, out := (c, o) :: G.out } h w := by
  refine ⟨H.below, H.imm, fun id k hk => ?_, H.sep, H.dom, H.top, H.glb, fun x hx => ?_, fun p hp => ?_, fun x hx p hp => ?_⟩
  · have := H.blk id k hk
    cases k with
    | row ver e sz es =>
      obtain ⟨v, xs, a1, a2, q1, q2⟩ := this
      exact ⟨v, xs, a1, a2, RelL.same (G := G) (G' := { G with mks := b :: G.mks, out := (c, o) :: G.out }) rfl rfl q1, q2⟩
    | mp ver es =>
      obtain ⟨d, a1, a2, ⟨ents, clock, a3, a4, a5⟩, a6⟩ := this
      exact ⟨d, a1, a2, ⟨ents, clock, a3, a4, RelL.same (G := G) (G' := { G with mks := b :: G.mks, out := (c, o) :: G.out }) rfl rfl a5⟩, a6⟩
  · cases hx with
    | head => exact ⟨h1, hb⟩
    | tail _ hx => exact H.mks x hx
  · cases hp with
    | head => exact ⟨h2, hc, hr⟩
    | tail _ hp => exact H.outs p hp
  · cases hx with
    | head => cases hp with
      | head => exact hbc
      | tail _ hp => exact hn1 p hp
    | tail _ hx => cases hp with
      | head => exact hn2 x hx
      | tail _ hp => exact H.apt x hx p hp

/-- A range over a function that never calls back. -/
theorem awp_range {P : Program} {N : Nat} {h0 : AHeap} {Q : APost} {s : Slots} {h T : AHeap} {lg : Lg} {v : AV} {g : Operand} {ps : Array Tmp} {asg body : Code} {k : FuncId} {first cap : List AV} (hg : aev s g = .fn (.func k) first cap) (hcb : callable P k = true)
    (HC : CallAg P k (first ++ [.junk] ++ cap) T lg v) (ha : Ag h T lg) (hfin : Fin' h) (HQ : Q .normal s (hp h lg.W)) : AWp P N h0 (.rangeFunc g ps asg body) Q s h := by
  intro G0 G a w hA hl st
  have hrel := st.ev g
  rw [hg] at hrel
  simp only [Rel] at hrel
  obtain ⟨fa, ca, hev, ra, rc⟩ := hrel
  refine wpIn_wide.1 (wpIn_rangeFunc (F := Fence.wide) (n := 0) fun fn hfn => ?_)
  obtain ⟨rec, hrec⟩ : ∃ rec : Loop, rec = { state := .ready, pending := none, fn, tmps := a.tmps, params := ps, assign := asg, body, defers := w.heap.size } := ⟨_, rfl⟩
  obtain ⟨W1, hW1⟩ : ∃ W1, (w.alloc (.deferred (some []))).alloc (.loop rec) = W1 := ⟨_, rfl⟩
  have hL1 : W1.heap[w.heap.size + 1]? = some (.loop rec) := by
    rw [← hW1]; have := World.alloc_heap_new (w.alloc (.deferred (some []))) (.loop rec); rwa [World.size_alloc] at this
  have hK1 : W1.heap[w.heap.size]? = some (.deferred (some [])) := by
    rw [← hW1]; exact (Below.heap_alloc _ _ _ (by simp)).trans (World.alloc_heap_new w _)
  have hB1 : Below w.heap.size w W1 := by
    rw [← hW1]; exact (((Below.refl _ w).alloc (Nat.le_refl _) _).alloc (by simp) _)
  have H1 := st.heap.grew hB1
  have hlt : ∀ {k : Nat} {o : Obj}, w.heap[k]? = some o → k < w.heap.size := fun hk => (Array.getElem?_eq_some_iff.1 hk).1
  have hbs := st.heap.below.size
  have H2 := H1.addMark hK1 hL1 (by omega) rfl hbs (by omega) (fun p hp e => by have := hlt (st.heap.outs p hp).2.1; omega) (fun x hx e => by have := hlt (st.heap.mks x hx).2; omega)
  let G1 : Gh := { G with mks := w.heap.size :: G.mks, out := (w.heap.size + 1, .loop rec) :: G.out }
  have rargs : RelL G1 (first ++ [.junk] ++ cap) (fa.toList ++ [.func (.yield (w.heap.size + 1)) #[] #[]] ++ ca.toList) := by
    refine RelL.append (RelL.append (RelL.same (G := G) (G' := G1) rfl rfl ra) ?_) (RelL.same (G := G) (G' := G1) rfl rfl rc)
    simp [RelL, Rel]
  have hcall := HC h ha hfin G1 W1 _ H2 rargs
  unfold callable at hcb
  cases hfnk : P.funcs[k]? with
  | none => rw [hfnk] at hcb; cases hcb
  | some fk =>
    rw [hfnk] at hcb
    simp only [Bool.and_eq_true, bne_iff_ne, ne_eq] at hcb
    have hcf : ∀ (vs : Array Value) (w : World), (callFunc k vs).run P w = .ok (.enter k vs) w := by
      intro vs w
      have hb2 : fk.body ≠ none := by intro e; rw [e] at hcb; simp at hcb
      simp [callFunc, hfnk, hcb.1, hb2]
    refine ⟨w.heap.size + 1, [{ target := .collected w.heap.size, args := #[] }], W1, { target := .fn (.func k) ca, args := fa ++ #[Value.func (.yield (w.heap.size + 1)) #[] #[]] }, W1, k,
      (fa.toList ++ [Value.func (.yield (w.heap.size + 1)) #[] #[]] ++ ca.toList).toArray, W1, ?_, ?_, fun _ _ => trivial, ?_, fun h => by simp [Fence.wide] at h, ?_⟩
    · rw [← hW1, hrec]; exact run_enterLoop_outer _ _ _ _ _
    · simp only [resolve, hev, Deferred.ofValue]
      simp [go_sem, Act.eval]
    · simp only [invoke]
      rw [hcf]
      congr 2
      apply Array.ext'; simp
    · refine callsIn_wide.2 (hcall.mono ?_)
      rintro e w3 ⟨vv, G3, r, h3, rfl, l3, H3, rv, e1, e2⟩
      subst e1 e2
      have hout3 : G3.out = (w.heap.size + 1, .loop rec) :: G.out := l3.o
      have hl3 := (H3.outs _ (by rw [hout3]; exact List.mem_cons_self ..)).2.1
      simp only at hl3
      have hend := run_endLoop (P := P) hl3 (by rw [hrec]; simp)
      have hpend : rec.pending = none := by rw [hrec]
      refine ⟨none, w3.putObj (w.heap.size + 1) (.loop { rec with state := .exhausted }), by rw [hend, hpend], ?_⟩
      have hne : ∀ p ∈ G.out, p.1 ≠ w.heap.size + 1 := fun p hp e => by have := hlt (st.heap.outs p hp).2.1; omega
      have H4 := H3.dropOut (ob' := .loop { rec with state := .exhausted }) hout3 hne
      obtain ⟨bs, hnd, hin, hd⟩ := st.defers
      have lG : G.Le { G3 with out := G.out } := ⟨l3.m, l3.l, l3.w, fun b hb => l3.k b (List.mem_cons_of_mem _ hb), rfl⟩
      refine ⟨{ G3 with out := G.out }, s, hp h lg.W, hl.trans lG, ⟨st.size, ⟨w.heap.size :: bs, ?_, ?_, ?_⟩, fun i => Rel.mono lG (st.slots i), H4⟩, HQ⟩
      · exact List.nodup_cons.2 ⟨fun hm => by have := hlt (st.heap.mks _ (hin _ hm)).2; omega, hnd⟩
      · intro b hb
        cases hb with
        | head => exact l3.k _ (List.mem_cons_self ..)
        | tail _ hb => exact l3.k _ (List.mem_cons_of_mem _ (hin b hb))
      · show [_] ++ a.defers = _
        rw [hd]; rfl

def contK (kn : K0) (kx : Exit → K0) : Exit → K0
  | .normal => kn
  | e => kx e

theorem contK_ne {kn : K0} {kx : Exit → K0} {e : Exit} (h : e ≠ .normal) : contK kn kx e = kx e := by
  cases e <;> first | (exact absurd rfl h) | rfl

def CodeSound (P : Program) (N : Nat) (c : Code) (f : CF → Nat → TS → Tr Blk → Nat → Lg → K0 → (Exit → K0) → EvRes) : Prop :=
  ∀ cf, SoundF P cf → ∀ fu t T n l kn kx r, f cf fu t T n l kn kx = some r → ∃ e t' T' n' l' lg m, contK kn kx e t' T' n' l' = some r ∧ Ext l lg l' ∧ Tf T.get lg T'.get ∧
    (roomy N = true → ∀ h0 s h Q, SEq s t → Ag h T.get lg → Fin' h → (∀ s2, SEq s2 t' → Q e s2 (hp h lg.W)) → AW P N h0 m c Q s h)

theorem arounds_succ {P : Program} {N : Nat} {h0 : AHeap} {b : Code} {Q : APost} {m : Nat} {s : Slots} {h : AHeap} (H : AWp P N h0 b (athen (ARounds P N h0 b Q m) Q) s h) : ARounds P N h0 b Q (m + 1) s h := by
  intro G0 G a w ha hl st
  rw [rounds_succ]
  refine wp_mono (H G0 G a w ha hl st) ?_
  intro e a' w' ⟨G', t', h', l, s', q⟩
  cases e with
  | normal => exact q G0 G' a' w' ha l s'
  | exit id => exact ⟨G', t', h', l, s', q⟩
  | goto l' => exact ⟨G', t', h', l, s', q⟩
  | ret => exact ⟨G', t', h', l, s', q⟩
  | panic c => exact ⟨G', t', h', l, s', q⟩
  | outgrown => exact ⟨G', t', h', l, s', q⟩

theorem athen_ne {next : Slots → AHeap → Prop} {Q : APost} {e : Exit} {s : Slots} {h : AHeap} (hne : e ≠ .normal) (H : Q e s h) : athen next Q e s h := by
  cases e <;> first | (exact absurd rfl hne) | exact H

theorem loop_sound {P : Program} {N : Nat} {b : Code} {f : CF → Nat → TS → Tr Blk → Nat → Lg → K0 → (Exit → K0) → EvRes} (hf : CodeSound P N b f) {cf : CF} (hcf : SoundF P cf) (fu : Nat) (kx : Exit → K0) : ∀ fuel t T n l r, loopC f cf fu kx fuel t T n l = some r →
    ∃ e t' T' n' l' lg m, e ≠ .normal ∧ kx e t' T' n' l' = some r ∧ Ext l lg l' ∧ Tf T.get lg T'.get ∧
      (roomy N = true → ∀ h0 s h Q, SEq s t → Ag h T.get lg → Fin' h → (∀ s2, SEq s2 t' → Q e s2 (hp h lg.W)) → ARounds P N h0 b Q m s h)
  | 0, t, T, n, l, r, h => by cases h
  | fuel + 1, t, T, n, l, r, h => by
    have h : f cf fu t T n l (loopC f cf fu kx fuel) kx = some r := h
    obtain ⟨e, t1, T1, n1, l1, lg1, m1, h1, a1, a2, a3⟩ := hf cf hcf _ _ _ _ _ _ _ _ h
    by_cases he : e = .normal
    · subst he
      obtain ⟨e2, t2, T2, n2, l2, lg2, m2, hne, h2, b1, b2, b3⟩ := loop_sound hf hcf fu kx fuel _ _ _ _ _ h1
      refine ⟨e2, t2, T2, n2, l2, .app lg2 lg1, m2 + 1, hne, h2, a1.trans b1, a2.app b2, fun hN h0 s h Q hs ha hfin K => ?_⟩
      refine arounds_succ (AW.wp (a3 hN h0 s h _ hs ha.old hfin fun s2 hs2 => ?_))
      exact b3 hN h0 s2 (hp h lg1.W) Q hs2 (ha.new a2) (hfin.hp _) fun s3 hs3 => by rw [hp_append]; exact K s3 hs3
    · rw [contK_ne he] at h1
      exact ⟨e, t1, T1, n1, l1, lg1, 1, he, h1, a1, a2, fun hN h0 s h Q hs ha hfin K => arounds_succ (AW.wp (a3 hN h0 s h _ hs ha hfin fun s2 hs2 => athen_ne he (K s2 hs2)))⟩

theorem disAll_of {efs : List Ef} : ∀ {us : List (Nat × Nat)}, (∀ p ∈ us, ∀ {x y : Ef}, efs[p.1]? = some x → efs[p.2]? = some y → EDisj x y) → disAll efs us
  | [], _ => trivial
  | p :: r, h => by
    refine ⟨?_, disAll_of fun q hq => h q (List.mem_cons_of_mem _ hq)⟩
    cases hx : efs[p.1]? with
    | none => trivial
    | some x =>
      cases hy : efs[p.2]? with
      | none => trivial
      | some y => exact h p (by simp) hx hy

theorem codeC_sound {P : Program} {E : FuncId → List AV → Option AV} (hm : P.follows .mixedOrders = true) (hE : ExtOk P E) (N : Nat) : ∀ (c : Code), CodeSound P N c (codeC P E N c).run
  | .skip => fun cf hcf fu t T n l kn kx r h => ⟨.normal, t, T, n, l, .nil, 0, h, Ext.refl l, Tf.nil _, fun _ h0 s h Q hs _ _ K => awp_skip (K s hs)⟩
  | .label i => fun cf hcf fu t T n l kn kx r h => ⟨.normal, t, T, n, l, .nil, 0, h, Ext.refl l, Tf.nil _, fun _ h0 s h Q hs _ _ K => awp_label (K s hs)⟩
  | .exit i => fun cf hcf fu t T n l kn kx r h => ⟨.exit i, t, T, n, l, .nil, 0, h, Ext.refl l, Tf.nil _, fun _ h0 s h Q hs _ _ K => awp_exit (K s hs)⟩
  | .ret => fun cf hcf fu t T n l kn kx r h => ⟨.ret, t, T, n, l, .nil, 0, h, Ext.refl l, Tf.nil _, fun _ h0 s h Q hs _ _ K => awp_ret (K s hs)⟩
  | .seq a b => fun cf hcf fu t T n l kn kx r h => by
    have h : (codeC P E N a).run cf fu t T n l (fun t T n l => (codeC P E N b).run cf fu t T n l kn kx) kx = some r := h
    obtain ⟨e, t1, T1, n1, l1, lg1, m1, h1, a1, a2, a3⟩ := codeC_sound hm hE N a cf hcf _ _ _ _ _ _ _ _ h
    by_cases he : e = .normal
    · subst he
      obtain ⟨e2, t2, T2, n2, l2, lg2, m2, h2, b1, b2, b3⟩ := codeC_sound hm hE N b cf hcf _ _ _ _ _ _ _ _ h1
      refine ⟨e2, t2, T2, n2, l2, .app lg2 lg1, 0, h2, a1.trans b1, a2.app b2, fun hN h0 s h Q hs ha hfin K => awp_seq (AW.wp (a3 hN h0 s h _ hs ha.old hfin fun s2 hs2 => ?_))⟩
      exact (b3 hN h0 s2 (hp h lg1.W) Q hs2 (ha.new a2) (hfin.hp _) fun s3 hs3 => by rw [hp_append]; exact K s3 hs3).wp
    · rw [contK_ne he] at h1
      exact ⟨e, t1, T1, n1, l1, lg1, 0, by rw [contK_ne he]; exact h1, a1, a2, fun hN h0 s h Q hs ha hfin K => awp_seq (AW.wp (a3 hN h0 s h _ hs ha hfin fun s2 hs2 => athen_ne he (K s2 hs2)))⟩
  | .cond c x y => fun cf hcf fu t T n l kn kx r h => by
    have h : (match tev t c with
      | .p (.v (.bool b)) => match b with
        | true => (codeC P E N x).run cf fu t T n l kn kx
        | false => (codeC P E N y).run cf fu t T n l kn kx
      | _ => none) = some r := h
    split at h
    · rename_i b hc
      cases b with
      | true =>
        obtain ⟨e, t1, T1, n1, l1, lg, m, h1, a1, a2, a3⟩ := codeC_sound hm hE N x cf hcf _ _ _ _ _ _ _ _ h
        exact ⟨e, t1, T1, n1, l1, lg, 0, h1, a1, a2, fun hN h0 s h Q hs ha hfin K => awp_cond true (by rw [seq_ev hs]; exact hc) (fun _ => (a3 hN h0 s h Q hs ha hfin K).wp) (fun e => by cases e)⟩
      | false =>
        obtain ⟨e, t1, T1, n1, l1, lg, m, h1, a1, a2, a3⟩ := codeC_sound hm hE N y cf hcf _ _ _ _ _ _ _ _ h
        exact ⟨e, t1, T1, n1, l1, lg, 0, h1, a1, a2, fun hN h0 s h Q hs ha hfin K => awp_cond false (by rw [seq_ev hs]; exact hc) (fun e => by cases e) (fun _ => (a3 hN h0 s h Q hs ha hfin K).wp)⟩
    · cases h
  | .block i b => fun cf hcf fu t T n l kn kx r h => by
    obtain ⟨e, t1, T1, n1, l1, lg, m, h1, a1, a2, a3⟩ := codeC_sound hm hE N b cf hcf _ _ _ _ _ _ _ _ h
    cases e with
    | exit i' =>
      have h1 : (match Nat.beq i' i with
        | true => kn t1 T1 n1 l1
        | false => kx (.exit i') t1 T1 n1 l1) = some r := h1
      split at h1
      · rename_i he
        have he' : i' = i := Nat.eq_of_beq_eq_true he
        exact ⟨.normal, t1, T1, n1, l1, lg, 0, h1, a1, a2, fun hN h0 s h Q hs ha hfin K => awp_block (AW.wp (a3 hN h0 s h _ hs ha hfin fun s2 hs2 => by simp only [ablock]; rw [if_pos he']; exact K s2 hs2))⟩
      · rename_i he
        have he' : i' ≠ i := Nat.ne_of_beq_eq_false he
        exact ⟨.exit i', t1, T1, n1, l1, lg, 0, h1, a1, a2, fun hN h0 s h Q hs ha hfin K => awp_block (AW.wp (a3 hN h0 s h _ hs ha hfin fun s2 hs2 => by simp only [ablock]; rw [if_neg he']; exact K s2 hs2))⟩
    | normal => exact ⟨.normal, t1, T1, n1, l1, lg, 0, h1, a1, a2, fun hN h0 s h Q hs ha hfin K => awp_block (AW.wp (a3 hN h0 s h _ hs ha hfin fun s2 hs2 => K s2 hs2))⟩
    | goto l' => exact ⟨.goto l', t1, T1, n1, l1, lg, 0, h1, a1, a2, fun hN h0 s h Q hs ha hfin K => awp_block (AW.wp (a3 hN h0 s h _ hs ha hfin fun s2 hs2 => K s2 hs2))⟩
    | ret => exact ⟨.ret, t1, T1, n1, l1, lg, 0, h1, a1, a2, fun hN h0 s h Q hs ha hfin K => awp_block (AW.wp (a3 hN h0 s h _ hs ha hfin fun s2 hs2 => K s2 hs2))⟩
    | panic c => exact ⟨.panic c, t1, T1, n1, l1, lg, 0, h1, a1, a2, fun hN h0 s h Q hs ha hfin K => awp_block (AW.wp (a3 hN h0 s h _ hs ha hfin fun s2 hs2 => K s2 hs2))⟩
    | outgrown => exact ⟨.outgrown, t1, T1, n1, l1, lg, 0, h1, a1, a2, fun hN h0 s h Q hs ha hfin K => awp_block (AW.wp (a3 hN h0 s h _ hs ha hfin fun s2 hs2 => K s2 hs2))⟩
  | .loop b => fun cf hcf fu t T n l kn kx r h => by
    have h : loopC (codeC P E N b).run cf fu kx fu t T n l = some r := h
    obtain ⟨e, t1, T1, n1, l1, lg, m, hne, h1, a1, a2, a3⟩ := loop_sound (codeC_sound hm hE N b) hcf fu kx _ _ _ _ _ _ h
    exact ⟨e, t1, T1, n1, l1, lg, m, by rw [contK_ne hne]; exact h1, a1, a2, a3⟩
  | .region i ops false => fun cf hcf fu t T n l kn kx r h => by
    have h : (opsC P E N ops.toList ops.toList).run cf t T n l kn = some r := h
    obtain ⟨t1, T1, n1, l1, lg, h1, a1, a2, a3⟩ := opsC_sound hE N ops.toList ops.toList cf hcf _ _ _ _ _ _ h
    exact ⟨.normal, t1, T1, n1, l1, lg, 0, h1, a1, a2, fun hN h0 s h Q hs ha hfin K => awp_region (id := i) (a3 hN h0 s h Q hs ha hfin K)⟩
  | .region i ops true => fun cf hcf fu t T n l kn kx r h => by
    simp only [codeC] at h
    cases hst : statM ops.toList ops.toList 0 [] [] with
    | none => rw [hst] at h; cases h
    | some us =>
      rw [hst] at h
      obtain ⟨q1, q2⟩ := statM_sound hst
      have fin : ∀ {t1 T1 n1 es}, kn t1 T1 n1 (Lg.all es l) = some r → disjAllB es us = true → (∀ l ∈ es, ∀ p ∈ l.W, p.1 ∈ l.R) → Tf T.get (Lg.all es .nil) T1.get → (roomy N = true → ∀ s h, SEq s t → Ag h T.get (Lg.all es .nil) → Fin' h →
          ∃ efs, EChain P N ops.toList ops.toList efs s h ∧ writesOk ops.toList efs ∧ Fits es efs ∧ (∀ k, SEq (slotsAt (fun _ => true) ops.toList efs k s) t1) ∧ ∀ k, heapAt (fun _ => true) efs k h = hp h (Lg.all es .nil).W) →
          ∃ e t' T' n' l' lg m, contK kn kx e t' T' n' l' = some r ∧ Ext l lg l' ∧ Tf T.get lg T'.get ∧
            (roomy N = true → ∀ h0 s h Q, SEq s t → Ag h T.get lg → Fin' h → (∀ s2, SEq s2 t' → Q e s2 (hp h lg.W)) → AW P N h0 m (.region i ops true) Q s h) := by
        intro t1 T1 n1 es h1 hd a0 a1 a2
        refine ⟨.normal, t1, T1, n1, _, Lg.all es .nil, 0, h1, all_ext es l, a1, fun hN h0 s h Q hs ha hfin K => ?_⟩
        obtain ⟨efs, b1, b2, b3, b4, b5⟩ := a2 hN s h hs ha hfin
        have hda := disAll_ok b3 a0 hd
        refine awp_draw (id := i) hm q1 b1 b2 (disAll_of fun p hp x y hx hy => disAll_mem hda (q2 p hp) hx hy) hfin ?_
        rw [b5 0]; exact K _ (b4 0)
      simp only at h
      split at h
      · rename_i hus
        have h : (dopsC P E N ops.toList ops.toList).run cf t T n (fun t T n es => kn t T n (Lg.all es l)) = some r := h
        obtain ⟨t1, T1, n1, es, h1, a0, a1, a2⟩ := dopsC_sound hE N ops.toList ops.toList cf hcf _ _ _ _ _ h
        exact fin h1 rfl a0 a1 a2
      · have h : (dopsC P E N ops.toList ops.toList).run cf t T n (fun t T n es => match disjAllB es us with
          | true => kn t T n (Lg.all es l)
          | false => none) = some r := h
        obtain ⟨t1, T1, n1, es, h1, a0, a1, a2⟩ := dopsC_sound hE N ops.toList ops.toList cf hcf _ _ _ _ _ h
        split at h1
        · rename_i hd; exact fin h1 hd a0 a1 a2
        · cases h1
  | .rangeFunc g ps asg body => fun cf hcf fu t T n l kn kx r h => by
    have h : (match tev t g with
      | .fn (.func k) first cap => match callB P k with
        | true => cf k (first ++ [.junk] ++ cap) T n l fun _ T n l => kn t T n l
        | false => none
      | _ => none) = some r := h
    split at h
    · rename_i k first cap hg
      split at h
      · rename_i hcb
        obtain ⟨v, T1, n1, l1, lg, h1, a1, a2, a3⟩ := hcf _ _ _ _ _ _ _ h
        exact ⟨.normal, t, T1, n1, l1, lg, 0, h1, a1, a2, fun hN h0 s h Q hs ha hfin K => awp_range (by rw [seq_ev hs]; exact hg) (by rw [← callB_eq]; exact hcb) a3 ha hfin (K s hs)⟩
      · cases h
    · cases h
  | .scope b => fun cf hcf fu t T n l kn kx r h => by cases h
  | .goto i => fun cf hcf fu t T n l kn kx r h => by cases h
  | .refuse w => fun cf hcf fu t T n l kn kx r h => by cases h

/-! ### Calls -/

theorem tresL_ok {P : Program} {s : Slots} {t : TS} {h T : AHeap} (hs : SEq s t) : ∀ {rs : List ResultVar} {vs : List AV}, tresL P t T rs = some vs → (∀ i ∈ tresR t T rs, h i = T i) → aresL P s h rs = some vs
  | [], vs, hx, _ => hx
  | x :: r, vs, hx, ha => by
    simp only [tresL] at hx
    cases h1 : tres1 P t T x with
    | none => rw [h1] at hx; cases hx
    | some v =>
      cases h2 : tresL P t T r with
      | none => rw [h1, h2] at hx; cases hx
      | some vs' =>
        rw [h1, h2] at hx
        cases hx
        have hr : ∀ i ∈ tresR t T r, h i = T i := fun i hi => ha i (by
          cases x with
          | tmp => exact hi
          | cell => exact List.mem_append_right _ hi)
        have e1 : ares1 P s h x = some v := by
          cases x with
          | tmp i => simp only [tres1, tev_tmp] at h1; simp only [ares1, hs i]; exact h1
          | cell i ty =>
            simp only [tres1, tev_tmp] at h1
            simp only [ares1, hs i]
            refine (aload_local h1 fun p hp => ?_).1
            rw [ha p.1 (List.mem_append_left _ (List.mem_map.2 ⟨p, hp, rfl⟩))]
            exact ablk_rd p hp
        simp only [aresL, e1, tresL_ok hs h2 hr]

theorem tres_ok {P : Program} {s : Slots} {t : TS} {h T : AHeap} (hs : SEq s t) {rs : List ResultVar} {v : AV} (hx : tres P t T rs = some v) (ha : ∀ i ∈ tresR t T rs, h i = T i) : ares P s h rs = some v := by
  unfold tres at hx
  cases hl : tresL P t T rs with
  | none => rw [hl] at hx; cases hx
  | some vs =>
    rw [hl] at hx
    unfold ares
    rw [tresL_ok hs hl ha]
    exact hx

theorem tresR_some {t : TS} {T : AHeap} : ∀ {rs : List ResultVar} (i : Nat), i ∈ tresR t T rs → T i ≠ none
  | [], _, h => by cases h
  | .tmp _ :: r, i, h => tresR_some (rs := r) i h
  | .cell j ty :: r, i, h => by
    rcases List.mem_append.1 h with h | h
    · obtain ⟨p, hp, rfl⟩ := List.mem_map.1 h
      rw [ablk_rd p hp]; simp
    · exact tresR_some (rs := r) i h

def ResOk (P : Program) (rs : List ResultVar) (res : TS → Tr Blk → Nat → Lg → KV → EvRes) : Prop :=
  ∀ t T n l k r, res t T n l k = some r → ∃ v l' lg, k v T n l' = some r ∧ Ext l lg l' ∧ lg.W = [] ∧ Tf T.get lg T.get ∧ ∀ s h, SEq s t → Ag h T.get lg → ares P s h rs = some v

theorem resC_ok {P : Program} {rs : List ResultVar} : ResOk P rs (resC P rs) := by
  intro t T n l k r h
  unfold resC at h
  split at h
  · rename_i v hv
    split at h
    · rename_i hR
      exact ⟨v, l, .nil, h, Ext.refl l, rfl, Tf.nil _, fun s h hs _ => tres_ok hs hv (by rw [hR]; simp)⟩
    · refine ⟨v, _, .op (tresR t T.get rs) [], h, Ext.one _ _, rfl, ⟨rfl, by simp [Lg.W], fun i hi => .inl (tresR_some i hi)⟩, fun s h hs ha => tres_ok hs hv ha⟩
  · cases h

theorem funcC_ok {P : Program} {E : FuncId → List AV → Option AV} (hm : P.follows .mixedOrders = true) (hE : ExtOk P E) {g : FuncId} {fc : FuncC} (h : funcC P E g = some fc) : ∃ fn c, P.funcs[g]? = some fn ∧ fn.body = some c ∧ fn.ntmps = fc.N ∧ roomy fn.ntmps = true ∧ (∀ l, fc.put l = targs 0 l) ∧ CodeSound P fn.ntmps c fc.run ∧ ResOk P fn.results.toList fc.res := by
  unfold funcC at h
  rw [nth_eq, Array.getElem?_toList] at h
  cases hf : P.funcs[g]? with
  | none => rw [hf] at h; cases h
  | some fn =>
    rw [hf] at h
    simp only at h
    cases hb : fn.body with
    | none => rw [hb] at h; cases h
    | some c =>
      rw [hb] at h
      simp only at h
      cases hro : roomy fn.ntmps with
      | false => rw [hro] at h; cases h
      | true =>
      rw [hro] at h
      simp only at h
      refine ⟨fn, c, rfl, hb, ?_⟩
      split at h
      · rename_i i hr
        cases h
        refine ⟨rfl, hro, fun l => setsC_run 12 0 l, codeC_sound hm hE fn.ntmps c, ?_⟩
        intro t T n l k r h
        rw [hr]
        exact ⟨tlook t i, l, .nil, h, Ext.refl l, rfl, Tf.nil _, fun s h hs _ => by simp [ares, aresL, ares1, hs i]⟩
      · cases h
        exact ⟨rfl, hro, fun l => setsC_run 12 0 l, codeC_sound hm hE fn.ntmps c, resC_ok⟩

theorem WeakL.refl' (h0 : AHeap) (xs : List AV) (h : AHeap) : WeakL h0 xs h xs h := fun G0 G w vs _ hl hh hr => ⟨G, hl, hh, hr, fun _ h => h⟩

def LeafOk (P : Program) (leaf : FuncId → List AV → Option AV) : Prop := ∀ g args v, leaf g args = some v → Pure P g args v

theorem callC_ok {P : Program} {E leaf : FuncId → List AV → Option AV} (hm : P.follows .mixedOrders = true) (hE : ExtOk P E) (hl : LeafOk P leaf) (F : Nat) : ∀ fuel, SoundF P (callC P E leaf F fuel)
  | 0 => fun g args T n l k r h => by cases h
  | fuel + 1 => fun g args T n l k r h => by
    have h : (match leaf g args with
      | some v => k v T n l
      | none => match funcC P E g with
        | some ⟨N, put, run, res⟩ => match Nat.ble args.length N with
          | true => run (callC P E leaf F fuel) F (put args) T n l (fun t T n l => res t T n l k) (fun e t T n l => match e with
            | .ret => res t T n l k
            | _ => none)
          | false => none
        | none => none) = some r := h
    split at h
    · rename_i v hv
      exact ⟨v, T, n, l, .nil, h, Ext.refl l, Tf.nil _, (hl _ _ _ hv).ag _⟩
    · split at h
      · rename_i N put run res hfc
        obtain ⟨fn, c, hf, hb, hN, hro, hput, hrun, hres⟩ := funcC_ok hm hE hfc
        simp only at hN hput hrun hres
        split at h
        · rename_i hlen
          have hlen' : args.length ≤ N := Nat.le_of_ble_eq_true hlen
          rw [hput] at h
          obtain ⟨e, t1, T1, n1, l1, lg, m, h1, a1, a2, a3⟩ := hrun _ (callC_ok hm hE hl F fuel) _ _ _ _ _ _ _ _ h
          have fin : e = .ret ∨ e = .normal → res t1 T1 n1 l1 k = some r → ∃ v T' n' l' lg, k v T' n' l' = some r ∧ Ext l lg l' ∧ Tf T.get lg T'.get ∧ CallAg P g args T.get lg v := by
            intro he h1
            obtain ⟨v, l2, lg2, h2, b1, b0, b2, b3⟩ := hres _ _ _ _ _ _ h1
            have hroN : N ≤ 256 := by rw [← hN]; exact Nat.le_of_ble_eq_true hro
            refine ⟨v, T1, n1, l2, .app lg2 lg, h2, a1.trans b1, a2.app b2, fun h ha hfin => acalls_of hf hb rfl (by rw [hN]; exact hlen') (AW.wp (a3 hro h _ h _ (seq_args args 0 (by omega)) ha.old hfin fun s2 hs2 => ?_))⟩
            have hr : ares P s2 (hp h lg.W) fn.results.toList = some v := b3 s2 _ hs2 (ha.new a2)
            rcases he with rfl | rfl
            · exact ⟨v, v, hp h lg.W, hr, WeakL.refl' _ _ _, by simp [Lg.W, b0], rfl⟩
            · exact ⟨v, v, hp h lg.W, hr, WeakL.refl' _ _ _, by simp [Lg.W, b0], rfl⟩
          cases e with
          | ret => exact fin (.inl rfl) h1
          | normal => exact fin (.inr rfl) h1
          | _ => cases h1
        · cases h
      · cases h

/-- A run over the empty heap that ends in a scalar. -/
def evals (P : Program) (E leaf : FuncId → List AV → Option AV) (F fuel : Nat) (f : FuncId) (args : List AV) (p : Value → Bool) : Bool :=
  match callC P E leaf F fuel f args .lf 0 .nil (fun v T n l => some (v, T, n, l)) with
  | some (v, _, _, _) => match v with
    | .p (.v x) => p x
    | _ => false
  | none => false

theorem evals_pure {P : Program} {E leaf : FuncId → List AV → Option AV} (hm : P.follows .mixedOrders = true) (hE : ExtOk P E) (hl : LeafOk P leaf) {F fuel : Nat} {f : FuncId} {args : List AV} {p : Value → Bool} {x : Value} (hp : ∀ y, p y = true → y = x)
    (hv : ∀ F : AHeap, args.mapM (viewA F 0) = some args) (h : evals P E leaf F fuel f args p = true) : Pure P f args (.p (.v x)) := by
  unfold evals at h
  split at h
  · rename_i v0 T0 n0 l0 h1
    split at h
    · rename_i y
      have hy := hp y h
      subst hy
      obtain ⟨v, T', n', l', lg, h2, a1, a2, a3⟩ := callC_ok hm hE hl F fuel _ _ _ _ _ _ _ h1
      cases h2
      intro F0 n hF G w vs H hr
      refine (a3 (fun _ => none) (fun i _ => (Tr.get_lf i).symm) ⟨0, fun _ _ => rfl⟩ (gh0 w) w vs (hrel0 w fun p hp => PCells.mono (fun b o v h => mem_of (H.imm b o v h).1 (H.imm b o v h).2) (H.glb p hp)) (viewL_rel H (hv F0) hr)).mono ?_
      rintro e w' ⟨v, G', r, h', rfl, hl, hh, hv', rfl, rfl⟩
      have hb := hh.below
      rw [hl.w] at hb
      simp only [Rel, PRel] at hv'
      subst hv'
      exact ⟨_, G, _, F0, rfl, .refl G, H.grew hb, by simp [Rel, PRel], rfl, rfl⟩
    · cases h
  · cases h

end Go.AM

/- Cards that say 'leaving' and 'goes': from a contract over one goroutine. -/
namespace Go.AM
set_option linter.unusedVariables false
set_option linter.unusedSimpArgs false
open Go

theorem leaving_of_handed {a : Assume} {C : Checked} {os : Os} {f : FuncId} {r : Reach} {Pre : World → Array Value → Prop} {Post : World → Array Value → Value → World → Prop}
    (h : ReturnsInHanded a C os f r Pre Post) : ReturnsInLeavingWide a C os f r Pre Post := fun enter => by
  obtain ⟨h1, h2, h3, h4, h5⟩ := h enter
  refine ⟨h1, h2, h3, h4, fun w tape i hf => ?_⟩
  obtain ⟨n, v, w', a1, a2, a3, a4, ⟨j, last, b1, b2, b3, b4, b5⟩, a6⟩ := h5 w tape i hf
  exact ⟨n, v, w', a1, a2, a3, a4, ⟨j, last, b1, b2, b4, onlyLeaving_of_quiet b3, b5⟩, a6⟩

/-- The tied card without a companion, the cell 'goes' free. -/
theorem holds_tied_goes_at (Lk : Looks) {p : Pinned} {s : OpenSpec} {c : OpenClaim} (al : List (List PathCond)) (kinds : List LaidKind) (tests : Bool) (har : Bool × String) (lk g : Bool)
    (hc : c.holds p s) (hal : ∀ D ∈ al, (c.withDomain D).holds p s) (hw : c.wfByText s = true) (hwal : ∀ D ∈ al, (c.withDomain D).wfByText s = true)
    (htie : c.laidByTextAt Lk p kinds tests)
    (hst : c.start = .entering) (hnb : c.noBlocks = false ∧ c.again = false) (hm : p.checked.prog.mainIs = some (har.1, har.2.toList)) (hn : (!har.1 && har.2.isEmpty && !lk) = false)
    (hl : ∀ f fn, p.checked.prog.funcNamed c.func = some f → p.checked.prog.funcs[f]? = some fn → lk = p.checked.prog.looks [] ∧ ∀ (j : Nat) t, fn.params[j]? = some t → p.checked.prog.wantsStandIn t = false)
    (hg : g = c.goesBy p.checked.prog) :
    Claim7.holds p (.plain s) { stood := { row := c, standIns := [], harness := har, looks := lk }, kinds := [], alts := al, laidByText := true, laidKinds := kinds, laidTests := tests, laidLooks := Lk, goes := g } := by
  have h6 : ∀ r : OpenClaim, Claim7.isSixth { stood := { row := r, standIns := [], harness := har, looks := lk }, kinds := [] } = false := fun r => by simpa [Claim7.isSixth] using hn
  refine ⟨Claim7.tied_new_at Lk kinds tests (Claim7.new_of_sixth hc har lk hst hnb hm (h6 c) hl) hw, fun D hD => ?_, htie, (fun h => by cases h), hg⟩
  exact Claim7.tied_new_at Lk kinds tests (Claim7.new_of_sixth (hal D hD) har lk hst hnb hm (h6 _) hl) (hwal D hD)

end Go.AM
