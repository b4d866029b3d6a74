/- One operation over the abstract state: the function, and that the machine follows it. -/
import Derived.Test.YtmljoaiedihoiaaDoorAm10
namespace Go.AM
set_option linter.unusedVariables false
set_option linter.unusedSimpArgs false
open Go Go.RowKit
set_option linter.unusedSectionVars false
variable [Glob]

/-! ### Slices of slices -/

def aint : AV → Option Int
  | .p (.v (.int _ i)) => some i
  | _ => none

theorem aint_rel {G : Gh} {x : AV} {i : Int} (h : aint x = some i) {y : Value} (r : Rel G x y) : ∃ k, y = .int k i := by
  cases x with
  | p x =>
    cases x with
    | v x =>
      simp only [Rel, PRel] at r
      subst r
      cases y <;> simp [aint] at h
      subst h
      exact ⟨_, rfl⟩
    | sl => simp [aint] at h
  | _ => simp [aint] at h

def abound : Option AV → Int → Option Int
  | none, d => some d
  | some x, _ => aint x

def isNil0 : Value → Bool
  | .slice none 0 0 => true
  | _ => false

theorem isNil0_eq {y : Value} (h : isNil0 y = true) : y = .slice none 0 0 := by
  unfold isNil0 at h
  split at h
  · rfl
  · cases h

/-- x[lo:hi], within the length. -/
def aslice (P : Program) (hh : AHeap) (t : TypeId) (x : AV) (lo hi mx : Option AV) : Option AV :=
  match tElem P t, alen x with
  | some (_, sz, _, _), some n =>
    match abound lo 0, abound hi n, abound mx n with
    | some l, some h, some m =>
      if 0 ≤ l ∧ l ≤ h ∧ h ≤ m ∧ m ≤ n then
        match x with
        | .p (.sl sz' es) => if sz' = sz then some (.p (.sl sz ((es.drop l.toNat).take (h.toNat - l.toNat)))) else none
        | .own id ver off _ => match hh id with
          | some (.row ver' _ sz' _) => if mx.isNone ∧ ver' = ver ∧ sz' = sz then some (.own id ver (off + l.toNat) (h.toNat - l.toNat)) else none
          | none => none
        | .p (.v y) => if isNil0 y then some (.p (.v y)) else none
        | _ => none
      else none
    | _, _, _ => none
  | _, _ => none

theorem run_bound {P : Program} {w : World} {k : IntKind} {i : Int} {y : Nat} (h0 : 0 ≤ i) (h1 : i ≤ y) (code : BoundsCode) : (Instr.sliceBound (.int k i) y code).run P w = .ok i.toNat w := by
  simp [Instr.sliceBound, asIntOf, h0, h1]

theorem run_bounds {P : Program} {w : World} {G : Gh} {len cap : Nat} {lo hi mx : Option AV} {vlo vhi vmx : Option Value} {l h m : Int} (hl : abound lo 0 = some l) (hh : abound hi len = some h) (hm : abound mx len = some m)
    (rl : ∀ x y, lo = some x → vlo = some y → Rel G x y) (rh : ∀ x y, hi = some x → vhi = some y → Rel G x y) (rm : ∀ x y, mx = some x → vmx = some y → Rel G x y)
    (nl : lo.isSome = vlo.isSome) (nh : hi.isSome = vhi.isSome) (nm : mx.isSome = vmx.isSome) (hb : 0 ≤ l ∧ l ≤ h ∧ h ≤ m ∧ m ≤ len) (hc : len ≤ cap) (hmx : mx.isSome = true → hi.isSome = true) :
    (Instr.sliceBounds true len cap vlo vhi vmx).run P w = .ok (l.toNat, h.toNat, if mx.isSome then m.toNat else cap) w := by
  obtain ⟨b1, b2, b3, b4⟩ := hb
  have l1 : l ≤ (h.toNat : Int) := by omega
  have h1 : h ≤ (m.toNat : Int) := by omega
  have h2 : 0 ≤ h := by omega
  have h3 : h ≤ (cap : Int) := by omega
  have m1 : 0 ≤ m := by omega
  have m2 : m ≤ (cap : Int) := by omega
  have x1 : max h 0 = h := by omega
  have x2 : max m 0 = m := by omega
  cases lo with
  | none =>
    cases vlo with
    | some => simp at nl
    | none =>
      simp only [abound] at hl; cases hl
      cases hi with
      | none =>
        cases vhi with
        | some => simp at nh
        | none =>
          cases mx with
          | some => simp at hmx
          | none =>
            cases vmx with
            | some => simp at nm
            | none => simp only [abound] at hh; cases hh; simp [Instr.sliceBounds]
      | some x =>
        cases vhi with
        | none => simp at nh
        | some y =>
          obtain ⟨k, rfl⟩ := aint_rel hh (rh x y rfl rfl)
          cases mx with
          | none =>
            cases vmx with
            | some => simp at nm
            | none => simp [Instr.sliceBounds, Instr.sliceBound, asIntOf, h2, h3]
          | some xm =>
            cases vmx with
            | none => simp at nm
            | some y2 =>
              obtain ⟨k2, rfl⟩ := aint_rel hm (rm xm y2 rfl rfl)
              simp [Instr.sliceBounds, Instr.sliceBound, asIntOf, x1, x2, b3, h2, m1, m2]
  | some x0 =>
    cases vlo with
    | none => simp at nl
    | some y0 =>
      obtain ⟨k0, rfl⟩ := aint_rel hl (rl x0 y0 rfl rfl)
      cases hi with
      | none =>
        cases vhi with
        | some => simp at nh
        | none =>
          cases mx with
          | some => simp at hmx
          | none =>
            cases vmx with
            | some => simp at nm
            | none =>
              simp only [abound] at hh; cases hh
              have l2 : l ≤ (len : Int) := by omega
              simp [Instr.sliceBounds, Instr.sliceBound, asIntOf, b1, l2]
      | some x =>
        cases vhi with
        | none => simp at nh
        | some y =>
          obtain ⟨k, rfl⟩ := aint_rel hh (rh x y rfl rfl)
          cases mx with
          | none =>
            cases vmx with
            | some => simp at nm
            | none => simp [Instr.sliceBounds, Instr.sliceBound, asIntOf, x1, h2, h3, b1, b2]
          | some xm =>
            cases vmx with
            | none => simp at nm
            | some y2 =>
              obtain ⟨k2, rfl⟩ := aint_rel hm (rm xm y2 rfl rfl)
              simp [Instr.sliceBounds, Instr.sliceBound, asIntOf, x1, x2, b3, b2, h2, m1, m2, b1]

theorem aslice_rel {P : Program} {G : Gh} {h0 : AHeap} {w : World} (H : HRel G h0 w) {t : TypeId} {x v : AV} {lo hi mx : Option AV} (ha : aslice P h0 t x lo hi mx = some v) {y : Value} {vlo vhi vmx : Option Value} (r : Rel G x y)
    (rl : ∀ x y, lo = some x → vlo = some y → Rel G x y) (rh : ∀ x y, hi = some x → vhi = some y → Rel G x y) (rm : ∀ x y, mx = some x → vmx = some y → Rel G x y)
    (nl : lo.isSome = vlo.isSome) (nh : hi.isSome = vhi.isSome) (nm : mx.isSome = vmx.isSome) (hmx : mx.isSome = true → hi.isSome = true) :
    ∃ u, (Instr.sliceAt t y vlo vhi vmx).run P w = .ok u w ∧ Rel G v u := by
  unfold aslice at ha
  cases ht : tElem P t with
  | none => rw [ht] at ha; simp at ha
  | some q =>
    obtain ⟨e, sz, by_, zs⟩ := q
    obtain ⟨inf, z, ht', hi', hz', hs, hb, hzc⟩ := tElem_parts ht
    have hsz : (sizeOf e).run P w = .ok sz w := by simp [sizeOf, typeInfo, hi', hs]
    rw [ht] at ha
    cases hn : alen x with
    | none => rw [hn] at ha; simp at ha
    | some n =>
      rw [hn] at ha
      try simp only at ha
      cases hl : abound lo 0 with
      | none => rw [hl] at ha; simp at ha
      | some l =>
        cases hh : abound hi n with
        | none => rw [hl, hh] at ha; simp at ha
        | some h =>
          cases hm : abound mx n with
          | none => rw [hl, hh, hm] at ha; simp at ha
          | some m =>
            rw [hl, hh, hm] at ha
            try simp only at ha
            split at ha
            case isFalse => cases ha
            rename_i hc
            obtain ⟨a, c, rfl⟩ := alen_rel hn r
            have hnc : n ≤ c ∨ (x = .p (.v (.slice none 0 0)) ∧ n = 0) := by
              cases x with
              | p x =>
                cases x with
                | v x =>
                  by_cases hz : isNil0 x = true
                  · have hz' := isNil0_eq hz
                    subst hz'
                    right
                    refine ⟨rfl, ?_⟩
                    simp [alen] at hn; exact hn.symm
                  · simp only [hz, Bool.false_eq_true, if_false] at ha; cases ha
                | sl => simp only [Rel, PRel] at r; obtain ⟨_, _, _, e1, _, h2, _⟩ := r; cases e1; exact .inl h2
              | own =>
                simp only [Rel] at r
                obtain ⟨a1, n1, c1, sz1, a1', _, h1, h2, e1, _⟩ := r
                cases e1
                exact .inl (by omega)
              | sub => simp at ha
              | _ => simp [alen] at hn
            have hnc' : n ≤ c := by
              rcases hnc with h | ⟨h1, h2⟩
              · exact h
              · omega
            have hrb := run_bounds (P := P) (w := w) hl hh hm rl rh rm nl nh nm hc hnc' hmx
            have hrun : (Instr.sliceAt t (.slice a n c) vlo vhi vmx).run P w = .ok (.slice (if (if mx.isSome then m.toNat else c) = l.toNat then a else a.map (·.add (l.toNat * sz))) (h.toNat - l.toNat) ((if mx.isSome then m.toNat else c) - l.toNat)) w := by
              simp [Instr.sliceAt, Instr.slice, run_underlying ht', hrb, hsz]
            refine ⟨_, hrun, ?_⟩
            generalize hM : (if mx.isSome then m.toNat else c) = M
            have hMh : h.toNat ≤ M := by rw [← hM]; split <;> omega
            cases x with
            | p x =>
              cases x with
              | sl sz' es =>
                try simp only at ha
                split at ha
                case isFalse => cases ha
                rename_i e1
                subst e1
                cases ha
                simp only [Rel, PRel] at r ⊢
                obtain ⟨a2, n2, c2, e2, rfl, h2, h3, h4⟩ := r
                cases e2
                simp only [alen] at hn
                cases hn
                refine ⟨_, _, _, rfl, by simp; omega, by omega, ?_, ?_⟩
                · intro hnone
                  split at hnone
                  · omega
                  · cases a with
                    | none =>
                      have h7 := h3 rfl
                      have h8 : M = 0 := by rw [← hM]; split <;> omega
                      omega
                    | some a => simp at hnone
                · by_cases h0 : h.toNat - l.toNat = 0
                  · exact .inl (by rw [h0]; simp)
                  · rcases h4 with h4 | ⟨b, o, rfl, hE⟩
                    · have h5 := congrArg List.length h4; simp only [List.length_nil] at h5; omega
                    · refine .inr ⟨b, o + l.toNat * sz', ?_, PEls.take _ (PEls.drop _ hE)⟩
                      rw [if_neg (by omega)]
                      simp [ptr_add]
              | v x =>
                by_cases hz : isNil0 x = true
                · have hz' := isNil0_eq hz
                  subst hz'
                  simp only [isNil0, if_true] at ha
                  cases ha
                  simp only [Rel, PRel] at r
                  cases r
                  have : M = 0 := by rw [← hM]; split <;> omega
                  simp only [Rel, PRel]
                  have hl0 : l.toNat = 0 := by omega
                  have hh0 : h.toNat = 0 := by omega
                  simp [this, hl0, hh0]
                · simp only [hz, Bool.false_eq_true, if_false] at ha; cases ha
            | own id ver off ln =>
              try simp only at ha
              cases hk : h0 id with
              | none => rw [hk] at ha; cases ha
              | some kk =>
              cases kk with
              | row ver' e' sz' es =>
              rw [hk] at ha
              try simp only at ha
              split at ha
              case isFalse => cases ha
              rename_i e1
              obtain ⟨e1, rfl, rfl⟩ := e1
              cases ha
              obtain ⟨v0, xs, l1, _⟩ := H.blk id _ hk
              cases mx with
              | some => simp at e1
              | none =>
                simp only [Option.isSome_none, Bool.false_eq_true, if_false] at hM
                subst hM
                simp only [alen] at hn
                cases hn
                simp only [Rel] at r ⊢
                obtain ⟨a1, n1, c1, sz1, a1', hloc, h1, h2, e1, h3, h4⟩ := r
                cases e1
                rw [l1] at hloc
                cases hloc
                refine ⟨a1, n1, c1, sz', _, l1, by omega, h2, by rw [Nat.sub_sub], ?_, ?_⟩
                · intro hnone
                  split at hnone
                  · omega
                  · cases a with
                    | none => have := h3 rfl; omega
                    | some a => simp at hnone
                · intro h5
                  have h6 : 0 < n ∨ off = 0 := by
                    rcases h5 with h5 | h5
                    · left; omega
                    · right; omega
                  have h7 := h4 h6
                  rw [h7]
                  by_cases h8 : c1 - off = l.toNat
                  · rw [if_pos h8]
                    have : l.toNat = 0 := by rcases h5 with h5 | h5 <;> omega
                    simp [this]
                  · rw [if_neg h8]
                    cases a1 with
                    | none => rfl
                    | some a1 => simp [ptr_add, Nat.add_mul]
            | sub => simp at ha
            | _ => simp [alen] at hn

theorem run_bounds2 {P : Program} {w : World} {G : Gh} {len : Nat} {lo hi : Option AV} {vlo vhi : Option Value} {l h : Int} (hl : abound lo 0 = some l) (hh : abound hi len = some h)
    (rl : ∀ x y, lo = some x → vlo = some y → Rel G x y) (rh : ∀ x y, hi = some x → vhi = some y → Rel G x y)
    (nl : lo.isSome = vlo.isSome) (nh : hi.isSome = vhi.isSome) (hb : 0 ≤ l ∧ l ≤ h ∧ h ≤ len) :
    (Instr.sliceBounds false len len vlo vhi none).run P w = .ok (l.toNat, h.toNat, len) w := by
  obtain ⟨b1, b2, b3⟩ := hb
  have h2 : 0 ≤ h := by omega
  have x1 : max h 0 = h := by omega
  cases lo with
  | none =>
    cases vlo with
    | some => simp at nl
    | none =>
      simp only [abound] at hl; cases hl
      cases hi with
      | none =>
        cases vhi with
        | some => simp at nh
        | none => simp only [abound] at hh; cases hh; simp [Instr.sliceBounds]
      | some x =>
        cases vhi with
        | none => simp at nh
        | some y =>
          obtain ⟨k, rfl⟩ := aint_rel hh (rh x y rfl rfl)
          simp [Instr.sliceBounds, Instr.sliceBound, asIntOf, h2, b3]
  | some x0 =>
    cases vlo with
    | none => simp at nl
    | some y0 =>
      obtain ⟨k0, rfl⟩ := aint_rel hl (rl x0 y0 rfl rfl)
      cases hi with
      | none =>
        cases vhi with
        | some => simp at nh
        | none =>
          simp only [abound] at hh; cases hh
          simp [Instr.sliceBounds, Instr.sliceBound, asIntOf, b1, b2]
      | some x =>
        cases vhi with
        | none => simp at nh
        | some y =>
          obtain ⟨k, rfl⟩ := aint_rel hh (rh x y rfl rfl)
          simp [Instr.sliceBounds, Instr.sliceBound, asIntOf, x1, h2, b3, b1, b2]

/-- A part of an array in a row of the call's own; a part of a string. -/
def aslx (P : Program) (t : TypeId) (x : AV) (lo hi : Option AV) : Option AV :=
  match tArr P t with
  | some (n, sz, _) => match x with
    | .ptr id ver i j => match abound lo 0, abound hi n with
      | some l, some h => if 0 ≤ l ∧ l ≤ h ∧ h ≤ n ∧ l < n then some (.sub id ver i (j + l.toNat * sz) (h.toNat - l.toNat)) else none
      | _, _ => none
    | _ => none
  | none => if tStr P t = true then
      match x.val with
      | some (.string s) => match abound lo 0, abound hi s.size with
        | some l, some h => if 0 ≤ l ∧ l ≤ h ∧ h ≤ s.size then some (.p (.v (.string (s.extract l.toNat h.toNat)))) else none
        | _, _ => none
      | _ => none
    else none

theorem aslx_rel {P : Program} {G : Gh} {w : World} {t : TypeId} {x v : AV} {lo hi : Option AV} (ha : aslx P t x lo hi = some v) {y : Value} {vlo vhi : Option Value} (r : Rel G x y)
    (rl : ∀ x y, lo = some x → vlo = some y → Rel G x y) (rh : ∀ x y, hi = some x → vhi = some y → Rel G x y) (nl : lo.isSome = vlo.isSome) (nh : hi.isSome = vhi.isSome) :
    ∃ u, (Instr.sliceAt t y vlo vhi none).run P w = .ok u w ∧ Rel G v u := by
  unfold aslx at ha
  split at ha
  · rename_i n sz ag ht
    obtain ⟨e, hu, hag⟩ := tArr_parts ht
    obtain ⟨_, hsz⟩ := run_isAgg hag w
    split at ha
    · rename_i id ver i j
      split at ha
      · rename_i l h hl hh
        split at ha
        · rename_i hc
          cases ha
          obtain ⟨c1, c2, c3, c4⟩ := hc
          have hb := run_bounds2 (P := P) (w := w) hl hh rl rh nl nh ⟨c1, c2, c3⟩
          simp only [Rel] at r
          obtain ⟨g, n0, c0, sz0, hloc, rfl⟩ := r
          have hne : ¬ n = l.toNat := by omega
          refine ⟨.slice (some ⟨g, i * sz0 + j + l.toNat * sz, none⟩) (h.toNat - l.toNat) (n - l.toNat), ?_, by simp only [Rel]; exact ⟨g, n0, c0, sz0, n - l.toNat, hloc, by simp [Nat.add_assoc], by omega⟩⟩
          simp [Instr.sliceAt, run_underlying hu, Instr.sureAddr, hb, hsz, hne, ptr_add]
        · cases ha
      · cases ha
    · cases ha
  · split at ha
    · rename_i hs
      split at ha
      · rename_i s hv
        split at ha
        · rename_i l h hl hh
          split at ha
          · rename_i hc
            cases ha
            have hb := run_bounds2 (P := P) (w := w) hl hh rl rh nl nh hc
            have e := AV.val_rel hv r
            refine ⟨.string (s.extract l.toNat h.toNat), ?_, by simp [Rel, PRel]⟩
            simp [Instr.sliceAt, Instr.slice, run_underlying (tStr_run hs), e, hb]
          · cases ha
        · cases ha
      · cases ha
    · cases ha

end Go.AM
