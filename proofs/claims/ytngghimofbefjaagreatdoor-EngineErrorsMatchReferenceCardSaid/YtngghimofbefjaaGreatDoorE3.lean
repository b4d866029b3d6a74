/- What is known of the field's arithmetic modulo 31. -/
import Derived.Test.YtngghimofbefjaaGreatDoorE1
import Derived.Test.YtngghimofbefjaaGreatDoorE2
noncomputable section
namespace Go.AM
set_option linter.unusedVariables false
set_option linter.unusedSimpArgs false
open Go Go.RowKit Go.Proofs

/-- Three numbers: 31, and two below it. -/
def three31 (args : List AV) (k : Nat → Nat → Option AV) : Option AV := match args with
  | [p, a, b] => match nat64 p, nat64 a, nat64 b with
    | some p, some a, some b => match Nat.beq p 31 with
      | true => match Nat.blt a 31 with
        | true => match Nat.blt b 31 with
          | true => k a b
          | false => none
        | false => none
      | false => none
    | _, _, _ => none
  | _ => none

theorem three31_some {args : List AV} {k : Nat → Nat → Option AV} {v : AV} (h : three31 args k = some v) : ∃ a b, a < 31 ∧ b < 31 ∧ args = [u64 31, u64 a, u64 b] ∧ k a b = some v := by
  unfold three31 at h
  split at h
  · split at h
    · rename_i p a b hp ha hb
      split at h
      · rename_i h1
        split at h
        · rename_i h2
          split at h
          · rename_i h3
            have e := Nat.eq_of_beq_eq_true h1
            subst e
            exact ⟨a, b, Nat.le_of_ble_eq_true h2, Nat.le_of_ble_eq_true h3, by rw [nat64_eq hp, nat64_eq ha, nat64_eq hb], h⟩
          · cases h
        · cases h
      · cases h
    · cases h
  · cases h

def leaf31 (g : FuncId) (args : List AV) : Option AV := match Nat.beq g 174 with
  | true => three31 args fun a b => forceN (Nat.mod (Nat.mul a b) 31) fun n => some (u64 n)
  | false => match Nat.beq g 176 with
    | true => three31 args fun a b => forceN (Nat.mod (Nat.add a b) 31) fun n => some (u64 n)
    | false => none

theorem allB_ok : ∀ {n : Nat} {p : Nat → Bool}, allB n p = true → ∀ k, k < n → p k = true
  | 0, _, _, k, hk => by omega
  | n + 1, p, h, k, hk => by
    have h : (Bool.rec false (allB n p) (p n) : Bool) = true := h
    cases hp : p n with
    | false => rw [hp] at h; cases h
    | true =>
      rw [hp] at h
      by_cases e : k = n
      · rw [e]; exact hp
      · exact allB_ok h k (by omega)

theorem leaf31_ok : LeafOk Tryz.prog leaf31 := by
  intro g args v h
  unfold leaf31 at h
  split at h
  · rename_i hg
    have hg' : g = 174 := Nat.eq_of_beq_eq_true hg
    subst hg'
    obtain ⟨a, b, ha, hb, rfl, hk⟩ := three31_some h
    rw [forceN_eq] at hk
    cases hk
    exact evals_pure mixed extZ_ok noLeaf_ok (fun y hy => isU_eq hy) (fun F => rfl) (allB_ok (allB_ok mul31_run a ha) b hb)
  · split at h
    · rename_i hg
      have hg' : g = 176 := Nat.eq_of_beq_eq_true hg
      subst hg'
      obtain ⟨a, b, ha, hb, rfl, hk⟩ := three31_some h
      rw [forceN_eq] at hk
      cases hk
      exact evals_pure mixed extZ_ok noLeaf_ok (fun y hy => isU_eq hy) (fun F => rfl) (allB_ok (allB_ok add31_run a ha) b hb)
    · cases h

end Go.AM
