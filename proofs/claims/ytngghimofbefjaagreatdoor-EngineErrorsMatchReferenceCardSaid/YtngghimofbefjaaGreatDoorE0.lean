/- The evaluator at this program: what the machine does itself, what is known of the field's arithmetic. -/
import Derived.Test.YtngghimofbefjaaGreatDoorM4
import Derived.Test.YtngghimofbefjaaGreatDoorS0
import Derived.Laws.Externs
noncomputable section
namespace Go.AM
set_option linter.unusedVariables false
set_option linter.unusedSimpArgs false
open Go Go.RowKit Go.Proofs


def u64 (n : Nat) : AV := .p (.v (.int .u64 (Int.ofNat n)))
def forceN {α : Type} (n : Nat) (k : Nat → α) : α := match n with
  | 0 => k 0
  | m + 1 => k (m + 1)
theorem forceN_eq {α : Type} (n : Nat) (k : Nat → α) : forceN n k = k n := by cases n <;> rfl

/-- A whole number of 64 bits without sign. -/
def nat64 (x : AV) : Option Nat := match x with
  | .p (.v (.int k v)) => match k with
    | .u64 => match v with
      | .ofNat n => some n
      | _ => none
    | _ => none
  | _ => none
theorem nat64_eq {x : AV} {n : Nat} (h : nat64 x = some n) : x = u64 n := by
  unfold nat64 at h
  split at h
  · split at h
    · split at h
      · cases h; rfl
      · cases h
    · cases h
  · cases h

/-- bits.Add64 -/
def extZ (g : FuncId) (args : List AV) : Option AV := match Nat.beq g 259 with
  | false => none
  | true => match args with
    | [x, y, c] => match nat64 x, nat64 y, nat64 c with
      | some x, some y, some c => match Nat.ble c 1 with
        | true => forceN (Nat.mod (Nat.add (Nat.add x y) c) 18446744073709551616) fun s => forceN (Nat.div (Nat.add (Nat.add x y) c) 18446744073709551616) fun d => some (.tup [u64 s, u64 d])
        | false => none
      | _, _, _ => none
    | _ => none

theorem extZ_ok : ExtOk Tryz.prog extZ := by
  intro g args v h G w vs hr
  unfold extZ at h
  split at h
  · cases h
  · rename_i hg
    have hg' : g = 259 := Nat.eq_of_beq_eq_true hg
    subst hg'
    split at h
    · rename_i ax ay ac
      split at h
      · rename_i x y c hx hy hc
        split at h
        · rename_i hle
          have hc1 : c ≤ 1 := Nat.le_of_ble_eq_true hle
          rw [forceN_eq, forceN_eq] at h
          cases h
          rw [nat64_eq hx, nat64_eq hy, nat64_eq hc] at hr
          match vs, hr with
          | [a, b, d], hr =>
            simp only [RelL, u64, Rel, PRel] at hr
            obtain ⟨rfl, rfl, rfl, _⟩ := hr
            refine ⟨_, ?_, by simp only [Rel]; exact ⟨#[.int .u64 (((x + y + c) % 18446744073709551616 : Nat) : Int), .int .u64 (((x + y + c) / 18446744073709551616 : Nat) : Int)], rfl, by simp only [RelL, u64, Rel, PRel]; exact ⟨rfl, rfl, trivial⟩⟩⟩
            rw [run_callFunc_extern Tryz.func259 (by kernel_rfl) (by kernel_rfl) (by kernel_rfl) (e := add64Entry) (by kernel_rfl)]
            have := run_add64 (P := Tryz.prog) (x : Int) y c (by omega) (by omega) (by omega) (by omega) w
            simp only [Int.ofNat_eq_natCast]
            rw [this]
            simp only [Result.andThen]
            congr 5 <;> omega
          | [], hr => simp [RelL] at hr
          | [_], hr => simp [RelL] at hr
          | [_, _], hr => simp [RelL] at hr
          | _ :: _ :: _ :: _ :: _, hr => simp [RelL] at hr
        · cases h
      · cases h
    · cases h

def noLeaf : FuncId → List AV → Option AV := fun _ _ => none
theorem noLeaf_ok : LeafOk Tryz.prog noLeaf := fun _ _ _ h => by cases h

def isU (c : Nat) : Value → Bool
  | .int k v => match k with
    | .u64 => match v with
      | .ofNat n => Nat.beq n c
      | _ => false
    | _ => false
  | _ => false
theorem isU_eq {c : Nat} {y : Value} (h : isU c y = true) : y = .int .u64 (Int.ofNat c) := by
  unfold isU at h
  split at h
  · split at h
    · split at h
      · rw [Nat.eq_of_beq_eq_true h]
      · cases h
    · cases h
  · cases h

def isTrue : Value → Bool
  | .bool b => b
  | _ => false
theorem isTrue_eq {y : Value} (h : isTrue y = true) : y = .bool true := by
  unfold isTrue at h
  split at h
  · rw [h]
  · cases h

def allB (n : Nat) (p : Nat → Bool) : Bool := Nat.rec true (fun k ih => Bool.rec false ih (p k)) n

end Go.AM
