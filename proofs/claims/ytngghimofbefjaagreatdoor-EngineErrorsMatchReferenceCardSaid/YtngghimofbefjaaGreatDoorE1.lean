/- Products modulo 31, one after the other. -/
import Derived.Test.YtngghimofbefjaaGreatDoorE0
noncomputable section
namespace Go.AM
set_option linter.unusedVariables false
set_option linter.unusedSimpArgs false
open Go Go.RowKit Go.Proofs

theorem mul31_run : allB 31 (fun a => allB 31 fun b => evals Tryz.prog extZ noLeaf 1000 20 174 [u64 31, u64 a, u64 b] (isU (Nat.mod (Nat.mul a b) 31))) = true := by kernel_rfl

end Go.AM
