/- The engine's statements are awake. -/
import Derived.Test.YtngghimofbefjaaGreatDoorE3
noncomputable section
namespace Go.AM
set_option linter.unusedVariables false
set_option linter.unusedSimpArgs false
open Go Go.RowKit Go.Proofs

theorem awake_run : evals Tryz.prog extZ leaf31 100000 300 4 [] isTrue = true := by kernel_rfl

theorem awake_spec : Pure Tryz.prog 4 [] (ab true) :=
  evals_pure mixed extZ_ok leaf31_ok (fun y hy => isTrue_eq hy) (fun F => rfl) awake_run

end Go.AM
