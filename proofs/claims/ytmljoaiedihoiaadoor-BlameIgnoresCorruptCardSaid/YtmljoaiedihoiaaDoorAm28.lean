/- Weakening in the midst of code. -/
import Derived.Test.YtmljoaiedihoiaaDoorAm27
namespace Go.AM
set_option linter.unusedVariables false
set_option linter.unusedSimpArgs false
open Go Go.RowKit
set_option linter.unusedSectionVars false
variable [Glob]

theorem sw_weak {P : Program} {N : Nat} {F : AHeap} {Q : SPost} {t t' : Slots} {L L' : Locs} {n n' : Nat} {c : Code} (hw : Weak N F t (hp F L) t' (hp F L')) (hf : Fresh F L' n') (H : SW P N F c Q t' L' n') : SW P N F c Q t L n :=
  fun _ => awp_weak hw (H hf)

theorem weak_freeze_hp {N : Nat} {F : AHeap} {L L' : Locs} {t t' : Slots} {id ver sz : Nat} {e : TypeId} {es : List (List PV)} (hk : hp F L id = some (.row ver e sz (pcells es)))
    (ht : convT (fun i => hp F L' i ≠ none) (frzA id ver sz es) t t') (hid : hp F L' id = none)
    (hb : ∀ p ∈ L', ∃ k, hp F L p.1 = some k ∧ convB (fun i => hp F L' i ≠ none) (frzA id ver sz es) k p.2) (hL : shed F L' L) : Weak N F t (hp F L) t' (hp F L') :=
  weak_of_list (weakL_freeze hk (convT_list ht) hid hb hL)

end Go.AM
