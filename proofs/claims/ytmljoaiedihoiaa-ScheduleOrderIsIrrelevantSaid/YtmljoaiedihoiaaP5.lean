/- Plain law: an empty layer and the order within layers don't matter. -/
import Derived.Test.YtmljoaiedihoiaaS14
import Derived.Test.YtmljoaiedihoiaaP2
namespace Go.AM
set_option linter.unusedVariables false
set_option linter.unusedSimpArgs false
open Go Go.Proofs

def okAt (gs : List Gate) (out : List Int) (i : Int) : Prop := 0 ≤ i ∧ i < gs.length ∧ (gs[i.toNat]?).map Gate.kind = some 6 ∧ out[i.toNat]? = some 0
theorem placeOne_if (gs : List Gate) (out : List Int) (n i : Int) : (okAt gs out i → placeOne gs out n i = some (out.set i.toNat (n + 1))) ∧ (¬ okAt gs out i → placeOne gs out n i = none) :=
  ⟨fun h => if_pos h, fun h => if_neg h⟩
theorem okAt_set {gs : List Gate} {out : List Int} {i j v : Int} (h : i ≠ j) (hi : 0 ≤ i) : okAt gs (out.set i.toNat v) j ↔ okAt gs out j := by
  unfold okAt
  constructor
  · rintro ⟨h1, h2, h3, h4⟩
    rw [List.getElem?_set_ne (by omega)] at h4
    exact ⟨h1, h2, h3, h4⟩
  · rintro ⟨h1, h2, h3, h4⟩
    refine ⟨h1, h2, h3, ?_⟩
    rw [List.getElem?_set_ne (by omega)]
    exact h4

theorem placeOne_comm (gs : List Gate) (out : List Int) (n i j : Int) : ((placeOne gs out n i).bind fun o => placeOne gs o n j) = (placeOne gs out n j).bind fun o => placeOne gs o n i := by
  by_cases e : i = j
  · subst e; rfl
  · by_cases hi : okAt gs out i
    · by_cases hj : okAt gs out j
      · rw [(placeOne_if gs out n i).1 hi, (placeOne_if gs out n j).1 hj]
        simp only [Option.bind_some]
        rw [(placeOne_if gs _ n j).1 ((okAt_set e hi.1).2 hj), (placeOne_if gs _ n i).1 ((okAt_set (fun h => e h.symm) hj.1).2 hi)]
        rw [List.set_comm]
        have := hi.1; have := hj.1; omega
      · rw [(placeOne_if gs out n i).1 hi, (placeOne_if gs out n j).2 hj]
        simp only [Option.bind_some, Option.bind_none]
        exact (placeOne_if gs _ n j).2 fun h => hj ((okAt_set e hi.1).1 h)
    · by_cases hj : okAt gs out j
      · rw [(placeOne_if gs out n i).2 hi, (placeOne_if gs out n j).1 hj]
        simp only [Option.bind_some, Option.bind_none]
        exact ((placeOne_if gs _ n i).2 fun h => hi ((okAt_set (fun h => e h.symm) hj.1).1 h)).symm
      · rw [(placeOne_if gs out n i).2 hi, (placeOne_if gs out n j).2 hj]; rfl

theorem placeLayer_perm {gs : List Gate} {n : Int} {l l' : List Int} (h : l.Perm l') : ∀ out, placeLayer gs out n l = placeLayer gs out n l' := by
  induction h with
  | nil => intro out; rfl
  | cons x _ ih => intro out; simp only [placeLayer]; exact congrArg _ (funext fun o => ih o)
  | swap x y l =>
    intro out
    simp only [placeLayer]
    have := congrArg (fun z : Option (List Int) => z.bind fun o => placeLayer gs o n l) (placeOne_comm gs out n y x)
    simpa only [Option.bind_assoc] using this
  | trans _ _ h1 h2 => intro out; rw [h1, h2]

/-- Numbers behind k move on by one. -/
def shf (k v : Int) : Int := if k < v then v + 1 else v
theorem shf_lt {k v w : Int} : shf k v < shf k w ↔ v < w := by unfold shf; split <;> split <;> omega
theorem shf_zero {k : Int} (hk : 0 ≤ k) : shf k 0 = 0 := by unfold shf; rw [if_neg (by omega)]
theorem shf_eq_zero {k v : Int} (hk : 0 ≤ k) : shf k v = 0 ↔ v = 0 := by unfold shf; split <;> omega

theorem okAt_map {gs : List Gate} {out : List Int} {k i : Int} (hk : 0 ≤ k) : okAt gs (out.map (shf k)) i ↔ okAt gs out i := by
  unfold okAt
  rw [List.getElem?_map]
  cases out[i.toNat]? with
  | none => simp
  | some v => simp only [Option.map_some, Option.some.injEq, shf_eq_zero hk]
theorem placeOne_map {gs : List Gate} {out : List Int} {k n n' i : Int} (hk : 0 ≤ k) (hn : shf k (n + 1) = n' + 1) : placeOne gs (out.map (shf k)) n' i = (placeOne gs out n i).map (List.map (shf k)) := by
  by_cases h : okAt gs out i
  · rw [(placeOne_if gs out n i).1 h, (placeOne_if gs _ n' i).1 ((okAt_map hk).2 h)]
    simp [List.map_set, hn]
  · rw [(placeOne_if gs out n i).2 h, (placeOne_if gs _ n' i).2 fun e => h ((okAt_map hk).1 e)]
    rfl
theorem placeLayer_map {gs : List Gate} {k n n' : Int} (hk : 0 ≤ k) (hn : shf k (n + 1) = n' + 1) : ∀ (l : List Int) (out : List Int), placeLayer gs (out.map (shf k)) n' l = (placeLayer gs out n l).map (List.map (shf k))
  | [], out => rfl
  | i :: l, out => by
    simp only [placeLayer]
    rw [placeOne_map hk hn]
    cases placeOne gs out n i with
    | none => rfl
    | some o => simp only [Option.map_some, Option.bind_some]; exact placeLayer_map hk hn l o

/-- The law's layers, from d on. -/
def insL (k : Nat) : Nat → List (List Int) → List (List Int)
  | d, [] => if d = k then [[]] else []
  | d, x :: l => (if d = k then [[]] else []) ++ x.reverse :: insL k (d + 1) l

theorem place_after {gs : List Gate} {k : Nat} : ∀ (l : List (List Int)) (d : Nat) (out : List Int), k < d → placeAll gs (out.map (shf k)) ((d : Int) + 1) (insL k d l) = (placeAll gs out d l).map (List.map (shf k))
  | [], d, out, h => by simp only [insL]; rw [if_neg (by omega)]; rfl
  | x :: l, d, out, h => by
    simp only [insL]
    rw [if_neg (by omega), List.nil_append]
    simp only [placeAll]
    rw [placeLayer_perm (List.reverse_perm x), placeLayer_map (k := (k : Int)) (n := d) (n' := (d : Int) + 1) (by omega) (by unfold shf; rw [if_pos (by omega)])]
    cases placeLayer gs out d x with
    | none => rfl
    | some o =>
      simp only [Option.map_some, Option.bind_some]
      have := place_after (gs := gs) (k := k) l (d + 1) o (by omega)
      rw [Int.natCast_add] at this
      exact this
theorem place_ins {gs : List Gate} {k : Nat} : ∀ (l : List (List Int)) (d : Nat) (out : List Int), d ≤ k → k ≤ d + l.length → placeAll gs (out.map (shf k)) d (insL k d l) = (placeAll gs out d l).map (List.map (shf k))
  | [], d, out, h, h2 => by
    simp only [List.length_nil] at h2
    simp only [insL]
    rw [if_pos (by omega)]
    rfl
  | x :: l, d, out, h, h2 => by
    simp only [List.length_cons] at h2
    simp only [insL]
    by_cases e : d = k
    · subst e
      rw [if_pos rfl]
      simp only [List.cons_append, List.nil_append, placeAll, placeLayer, Option.bind_some]
      rw [placeLayer_perm (List.reverse_perm x), placeLayer_map (k := (d : Int)) (n := d) (n' := (d : Int) + 1) (by omega) (by unfold shf; rw [if_pos (by omega)])]
      cases placeLayer gs out d x with
      | none => rfl
      | some o =>
        simp only [Option.map_some, Option.bind_some]
        have := place_after (gs := gs) l (d + 1) o (Nat.lt_succ_self _)
        rw [Int.natCast_add] at this
        exact this
    · rw [if_neg e, List.nil_append]
      simp only [placeAll]
      rw [placeLayer_perm (List.reverse_perm x), placeLayer_map (k := (k : Int)) (n := d) (n' := d) (by omega) (by unfold shf; rw [if_neg (by omega)])]
      cases placeLayer gs out d x with
      | none => rfl
      | some o =>
        simp only [Option.map_some, Option.bind_some]
        have := place_ins (gs := gs) (k := k) l (d + 1) o (by omega) (by omega)
        rw [Int.natCast_add] at this
        exact this

theorem map_getD {k : Int} (hk : 0 ≤ k) (l : List Int) (j : Nat) : (l.map (shf k)).getD j 0 = shf k (l.getD j 0) := by
  rw [List.getD_eq_getElem?_getD, List.getD_eq_getElem?_getD, List.getElem?_map]
  cases l[j]? with
  | none => simp [shf_zero hk]
  | some v => simp
theorem depIn_map {k : Int} (hk : 0 ≤ k) {i : Nat} : ∀ (ks : List Int) (out : List Int), depIn (out.map (shf k)) i ks = (depIn out i ks).map (shf k)
  | [], _ => rfl
  | q :: ks, out => by
    simp only [depIn]
    rw [map_getD hk, map_getD hk]
    have : (if shf k (out.getD q.toNat 0) > shf k (out.getD i 0) then shf k (out.getD q.toNat 0) else shf k (out.getD i 0)) = shf k (if out.getD q.toNat 0 > out.getD i 0 then out.getD q.toNat 0 else out.getD i 0) := by
      by_cases c : out.getD q.toNat 0 > out.getD i 0
      · rw [if_pos c, if_pos (shf_lt.2 c)]
      · rw [if_neg c, if_neg (fun e => c (shf_lt.1 e))]
    rw [this, ← List.map_set]
    exact depIn_map hk ks _
theorem validFrom_map {k : Int} (hk : 0 ≤ k) {at_ : List Int} : ∀ (gs : List Gate) (last : List Int) (i : Nat), validFrom (at_.map (shf k)) (last.map (shf k)) i gs = validFrom at_ last i gs
  | [], _, _ => rfl
  | g :: gs, last, i => by
    simp only [validFrom]
    rw [depIn_map hk, map_getD hk, map_getD hk, ← List.map_set, validFrom_map hk gs, validFrom_map hk gs]
    have : (shf k (at_.getD i 0) = 0 ∨ shf k (at_.getD i 0) ≤ shf k ((depIn last i (namedL g)).getD i 0)) ↔ (at_.getD i 0 = 0 ∨ at_.getD i 0 ≤ (depIn last i (namedL g)).getD i 0) := by
      rw [shf_eq_zero hk]
      have := shf_lt (k := k) (v := (depIn last i (namedL g)).getD i 0) (w := at_.getD i 0)
      omega
    simp only [this]

theorem valid_ins (gs : List Gate) (l : List (List Int)) (k : Nat) (hk : k ≤ l.length) : validS gs (insL k 0 l) = validS gs l := by
  unfold validS
  have hz : (List.replicate gs.length (0 : Int)).map (shf k) = List.replicate gs.length 0 := by rw [List.map_replicate, shf_zero (by omega)]
  have h1 := place_ins (gs := gs) (k := k) l 0 (List.replicate gs.length 0) (by omega) (by omega)
  rw [hz] at h1
  have e : (((0 : Nat) : Int)) = 0 := rfl
  rw [e] at h1
  rw [h1]
  cases h : placeAll gs (List.replicate gs.length 0) 0 l with
  | none => rfl
  | some at_ =>
    simp only [Option.map_some]
    have := validFrom_map (k := k) (by omega) (at_ := at_) gs (List.replicate gs.length 0) 0
    rw [hz] at this
    exact this

end Go.AM
