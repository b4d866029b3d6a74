/- circuit.right agrees with the reference's gate. -/
import Derived.Test.YtngghimofbefjaaGreatDoorG22
namespace Go.AM
set_option linter.unusedVariables false
set_option linter.unusedSimpArgs false
open Go Go.RowKit Go.Proofs

/-- The form's index of a gate of a known kind. -/
def fidx (g : Gate) : Nat := if g.kind = 1 then (if g.k = 1 then 1 else 0) else g.kind.toNat
theorem fidx_ok {g : Gate} (h : 1 ≤ g.kind ∧ g.kind ≤ 6) : fidx g < 7 ∧ fmatch g (fidx g) = true ∧ ∀ j, j < fidx g → fmatch g j = false := by
  by_cases k1 : g.kind = 1
  · by_cases k2 : g.k = 1
    · have e : fidx g = 1 := by simp [fidx, k1, k2]
      rw [e]
      refine ⟨by omega, by simp [fmatch, fk, fm, k1, k2], fun j hj => ?_⟩
      obtain rfl : j = 0 := by omega
      simp [fmatch, fk, fm, k1, k2]
    · have e : fidx g = 0 := by simp [fidx, k1, k2]
      rw [e]
      exact ⟨by omega, by simp [fmatch, fk, fm, k1, k2], fun j hj => by omega⟩
  · have e : fidx g = g.kind.toNat := by simp [fidx, k1]
    obtain ⟨m, hm⟩ : ∃ m : Nat, g.kind = m := ⟨g.kind.toNat, by omega⟩
    rw [e, hm, Int.toNat_natCast]
    have h2 : m = 2 ∨ m = 3 ∨ m = 4 ∨ m = 5 ∨ m = 6 := by omega
    refine ⟨by omega, ?_, fun j hj => ?_⟩
    · rcases h2 with rfl | rfl | rfl | rfl | rfl <;> simp [fmatch, fk, fm, hm]
    · have h3 : j = 0 ∨ j = 1 ∨ j = 2 ∨ j = 3 ∨ j = 4 ∨ j = 5 := by omega
      rcases h2 with rfl | rfl | rfl | rfl | rfl <;> rcases h3 with rfl | rfl | rfl | rfl | rfl | rfl <;> first | (exfalso; omega) | (simp [fmatch, fk, fm, hm])

theorem fnone {g : Gate} (h : ¬ (1 ≤ g.kind ∧ g.kind ≤ 6)) (j : Nat) (hj : j < 7) : fmatch g j = false := by
  have h3 : j = 0 ∨ j = 1 ∨ j = 2 ∨ j = 3 ∨ j = 4 ∨ j = 5 ∨ j = 6 := by omega
  rcases h3 with rfl | rfl | rfl | rfl | rfl | rfl | rfl <;> simp [fmatch, fk, fm] <;> omega

theorem rightV_gate {p at_ : Int} {g : Gate} (h : 1 ≤ g.kind ∧ g.kind ≤ 6) (hk : 0 ≤ g.k) : rightV p (fidx g) g at_ = gateOk p at_ g := by
  rw [Bool.eq_iff_iff]
  by_cases k1 : g.kind = 1
  · by_cases k2 : g.k = 1
    · have e : fidx g = 1 := by simp [fidx, k1, k2]
      simp [e, rightV, frmV, kV, sideOk, ff, fc, fa, fb, fm, gateOk, k1, k2]
      omega
    · have e : fidx g = 0 := by simp [fidx, k1, k2]
      simp [e, rightV, frmV, kV, sideOk, ff, fc, fa, fb, fm, gateOk, k1]
      omega
  · have e : fidx g = g.kind.toNat := by simp [fidx, k1]
    obtain ⟨m, hm⟩ : ∃ m : Nat, g.kind = m := ⟨g.kind.toNat, by omega⟩
    rw [e, hm, Int.toNat_natCast]
    have h2 : m = 2 ∨ m = 3 ∨ m = 4 ∨ m = 5 ∨ m = 6 := by omega
    rcases h2 with rfl | rfl | rfl | rfl | rfl <;> simp [rightV, frmV, kV, sideOk, ff, fc, fa, fb, fm, gateOk, hm] <;> omega

theorem gateOk_no {p at_ : Int} {g : Gate} (h : ¬ (1 ≤ g.kind ∧ g.kind ≤ 6)) : gateOk p at_ g = false := by
  unfold gateOk
  rw [if_neg (by omega), if_neg (by omega), if_neg (by omega), if_neg (by omega)]

theorem rightg_spec (p : Int) (g : Gate) (at_ : Int) (hk : 0 ≤ g.k) : Pure Tryz.prog 110 [au p, gateA g, ai at_] (ab (gateOk p at_ g)) := by
  by_cases h : 1 ≤ g.kind ∧ g.kind ≤ 6
  · obtain ⟨f1, f2, f3⟩ := fidx_ok h
    rw [← rightV_gate h hk]
    exact right_spec p g at_ (fidx g) f1 f2 f3
  · rw [gateOk_no h]
    exact right_no p g at_ (fnone h)

end Go.AM
