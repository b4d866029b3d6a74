/- Plain law: one multiplication a layer. -/
import Derived.Test.YtmljoaiedihoiaaS12
import Derived.Test.YtmljoaiedihoiaaL2
namespace Go.AM
set_option linter.unusedVariables false
set_option linter.unusedSimpArgs false
open Go Go.Proofs

/-- The layers as placed: of the gates from i on, n layers before. -/
def rank (n : Nat) : List Gate → List Int
  | [] => []
  | g :: gs => if g.kind = 6 then ((n : Int) + 1) :: rank (n + 1) gs else 0 :: rank n gs

theorem rank_len : ∀ (gs : List Gate) (n : Nat), (rank n gs).length = gs.length
  | [], _ => rfl
  | g :: gs, n => by simp only [rank]; split <;> simp [rank_len gs]

theorem place_seq (all : List Gate) : ∀ (gs : List Gate) (pre : List Gate) (n : Nat) (done : List Int), all = pre ++ gs → done.length = pre.length → placeAll all (done ++ List.replicate gs.length 0) n (seqL pre.length gs) = some (done ++ rank n gs)
  | [], pre, n, done, _, _ => by simp [seqL, placeAll, rank]
  | g :: gs, pre, n, done, hall, hl => by
    have hg : all[pre.length]? = some g := by rw [hall]; simp
    have hlen : pre.length < all.length := by rw [hall]; simp
    simp only [seqL, rank]
    split
    · rename_i h6
      simp only [placeAll, placeLayer]
      have e : placeOne all (done ++ List.replicate (g :: gs).length 0) n (pre.length : Int) = some (done ++ ((n : Int) + 1) :: List.replicate gs.length 0) := by
        unfold placeOne
        rw [if_pos ⟨by omega, by omega, by simp only [Int.toNat_natCast, hg, Option.map_some, h6], by
          rw [Int.toNat_natCast, ← hl, List.getElem?_append_right (Nat.le_refl _)]; simp⟩]
        rw [Int.toNat_natCast, ← hl, List.set_append_right _ _ (Nat.le_refl _)]
        simp [List.replicate_succ]
      rw [e]
      simp only [Option.bind_some]
      have := place_seq all gs (pre ++ [g]) (n + 1) (done ++ [(n : Int) + 1]) (by rw [hall]; simp) (by simp [hl])
      simp only [List.length_append, List.length_cons, List.length_nil, List.append_assoc, List.cons_append, List.nil_append, Nat.zero_add] at this
      rw [Int.natCast_add] at this
      exact this
    · have := place_seq all gs (pre ++ [g]) n (done ++ [0]) (by rw [hall]; simp) (by simp [hl])
      simp only [List.length_append, List.length_cons, List.length_nil, List.append_assoc, List.cons_append, List.nil_append, Nat.zero_add] at this
      rw [List.length_cons, List.replicate_succ]
      exact this

theorem depIn_le {i : Nat} {B : Int} : ∀ {ks : List Int} {out : List Int}, (∀ j, out.getD j 0 ≤ B) → ∀ j, (depIn out i ks).getD j 0 ≤ B
  | [], _, h, j => h j
  | k :: ks, out, h, j => by
    simp only [depIn]
    refine depIn_le (fun j => ?_) j
    rw [getD_set]
    split
    · split
      · exact h _
      · exact h _
    · exact h j

theorem valid_seq : ∀ (gs : List Gate) (i n : Nat) (done last : List Int), done.length = i → (∀ j, last.getD j 0 ≤ n) → validFrom (done ++ rank n gs) last i gs = true
  | [], _, _, _, _, _, _ => rfl
  | g :: gs, i, n, done, last, hl, hle => by
    simp only [validFrom, rank]
    split
    · have e : (done ++ ((n : Int) + 1) :: rank (n + 1) gs).getD i 0 = (n : Int) + 1 := by
        rw [List.getD_eq_getElem?_getD, ← hl, List.getElem?_append_right (Nat.le_refl _)]; simp
      rw [e]
      have h1 := depIn_le (i := i) (ks := namedL g) hle
      rw [if_neg (by have := h1 i; omega)]
      have := valid_seq gs (i + 1) (n + 1) (done ++ [(n : Int) + 1]) ((depIn last i (namedL g)).set i ((n : Int) + 1)) (by simp [hl]) (fun j => by
        rw [getD_set]
        split
        · simp
        · have := h1 j; rw [Int.natCast_add]; omega)
      simpa using this
    · have := valid_seq gs (i + 1) n (done ++ [0]) (depIn last i (namedL g)) (by simp [hl]) (depIn_le hle)
      simpa using this

theorem seq_valid (gs : List Gate) : validS gs (seqL 0 gs) = true := by
  unfold validS
  have := place_seq gs gs [] 0 [] (by simp) rfl
  simp only [List.nil_append, List.length_nil] at this
  have e : (((0 : Nat) : Int)) = 0 := rfl
  rw [e] at this
  rw [this]
  simp only
  have := valid_seq gs 0 0 [] (List.replicate gs.length 0) rfl (fun j => by rw [List.getD_eq_getElem?_getD, List.getElem?_replicate]; split <;> simp)
  simpa using this

/-! ### What a valid schedule holds -/

theorem placeOne_get {gs : List Gate} {out o : List Int} {n i : Int} (h : placeOne gs out n i = some o) {m : Nat} (hm : (m : Int) ≠ i) : o.getD m 0 = out.getD m 0 := by
  unfold placeOne at h
  split at h
  · cases h
    rw [getD_set, if_neg (by omega)]
  · cases h
theorem placeLayer_get {gs : List Gate} {n : Int} {m : Nat} : ∀ {l : List Int} {out o : List Int}, placeLayer gs out n l = some o → (m : Int) ∉ l → o.getD m 0 = out.getD m 0
  | [], _, _, h, _ => by simp only [placeLayer] at h; cases h; rfl
  | i :: l, out, o, h, hm => by
    simp only [placeLayer, Option.bind_eq_some_iff] at h
    obtain ⟨o1, h1, h2⟩ := h
    simp only [List.mem_cons, not_or] at hm
    rw [placeLayer_get h2 hm.2, placeOne_get h1 hm.1]
theorem placeAll_get {gs : List Gate} {m : Nat} : ∀ {l : List (List Int)} {n : Int} {out o : List Int}, placeAll gs out n l = some o → (∀ x ∈ l, (m : Int) ∉ x) → o.getD m 0 = out.getD m 0
  | [], _, _, _, h, _ => by simp only [placeAll] at h; cases h; rfl
  | x :: l, n, out, o, h, hm => by
    simp only [placeAll, Option.bind_eq_some_iff] at h
    obtain ⟨o1, h1, h2⟩ := h
    rw [placeAll_get h2 fun y hy => hm y (by simp [hy]), placeLayer_get h1 (hm x (by simp))]

theorem validFrom_at {at_ : List Int} : ∀ {gs : List Gate} {last : List Int} {i : Nat}, validFrom at_ last i gs = true → ∀ (j : Nat) (g : Gate), gs[j]? = some g → g.kind = 6 → at_.getD (i + j) 0 ≠ 0
  | [], _, _, _, j, g, hg, _ => by simp at hg
  | x :: gs, last, i, h, j, g, hg, h6 => by
    simp only [validFrom] at h
    cases j with
    | zero =>
      simp at hg
      subst hg
      rw [if_pos h6] at h
      split at h
      · cases h
      · rename_i hc; exact fun e => hc (.inl e)
    | succ j =>
      rw [show i + (j + 1) = i + 1 + j by omega]
      split at h
      · split at h
        · cases h
        · exact validFrom_at h j g (by simpa using hg) h6
      · exact validFrom_at h j g (by simpa using hg) h6

theorem valid_has {gs : List Gate} {l : List (List Int)} (h : validS gs l = true) {m : Nat} {g : Gate} (hg : gs[m]? = some g) (h6 : g.kind = 6) : ∃ x ∈ l, (m : Int) ∈ x := by
  unfold validS at h
  split at h
  · cases h
  · rename_i at_ hp
    have h1 := validFrom_at h m g hg h6
    rw [Nat.zero_add] at h1
    apply Classical.byContradiction
    intro hc
    refine h1 ?_
    rw [placeAll_get hp fun x hx hmx => hc ⟨x, hx, hmx⟩, List.getD_eq_getElem?_getD, List.getElem?_replicate]
    split <;> rfl

theorem seqL_mem : ∀ {gs : List Gate} {i : Nat} {x : List Int}, x ∈ seqL i gs → ∃ (j : Nat) (g : Gate), gs[j]? = some g ∧ g.kind = 6 ∧ x = [((i + j : Nat) : Int)]
  | [], _, _, h => by simp [seqL] at h
  | g :: gs, i, x, h => by
    simp only [seqL] at h
    have key : x ∈ seqL (i + 1) gs → ∃ (j : Nat) (g' : Gate), (g :: gs)[j]? = some g' ∧ g'.kind = 6 ∧ x = [((i + j : Nat) : Int)] := by
      intro h
      obtain ⟨j, g', h1, h2, rfl⟩ := seqL_mem h
      exact ⟨j + 1, g', by simpa using h1, h2, by rw [show i + 1 + j = i + (j + 1) by omega]⟩
    split at h
    · rename_i h6
      simp only [List.mem_cons] at h
      rcases h with rfl | h
      · exact ⟨0, g, rfl, h6, rfl⟩
      · exact key h
    · exact key h

theorem seqL_nodup : ∀ (gs : List Gate) (i : Nat), (seqL i gs).Nodup
  | [], _ => by simp [seqL]
  | g :: gs, i => by
    simp only [seqL]
    split
    · rw [List.nodup_cons]
      refine ⟨fun h => ?_, seqL_nodup gs (i + 1)⟩
      obtain ⟨j, _, _, _, e⟩ := seqL_mem h
      simp at e
      omega
    · exact seqL_nodup gs (i + 1)

theorem seq_short (gs : List Gate) (h : seqL 0 gs ≠ []) : validS gs ((seqL 0 gs).take ((seqL 0 gs).length - 1)) = false := by
  cases hv : validS gs ((seqL 0 gs).take ((seqL 0 gs).length - 1)) with
  | false => rfl
  | true =>
    exfalso
    have hlast := List.getLast_mem h
    obtain ⟨m, g, hg, h6, e⟩ := seqL_mem hlast
    obtain ⟨x, hx, hm⟩ := valid_has hv hg h6
    rw [← List.dropLast_eq_take] at hx
    have hx2 := (List.dropLast_subset _) hx
    obtain ⟨j, _, _, _, rfl⟩ := seqL_mem hx2
    simp at hm
    obtain rfl : m = j := by omega
    have hnd := seqL_nodup gs 0
    rw [← List.dropLast_concat_getLast h, List.nodup_append] at hnd
    exact hnd.2.2 _ hx _ (List.mem_singleton.2 rfl) e.symm

theorem law_sequential (p : Int) (gs : List Gate) (os : List Int) : Pure Try.prog 7 [circA p gs os] (ab true) :=
  law_seq p gs os (fun gs _ _ => seq_valid gs) (fun gs _ _ h => seq_short gs h)

end Go.AM
