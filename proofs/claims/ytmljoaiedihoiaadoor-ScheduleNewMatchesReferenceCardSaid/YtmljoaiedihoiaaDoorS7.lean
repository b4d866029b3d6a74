/- The reference's Valid. -/
import Derived.Test.YtmljoaiedihoiaaDoorS6
namespace Go.AM
set_option linter.unusedVariables false
set_option linter.unusedSimpArgs false
open Go Go.RowKit Go.Proofs

end Go.AM
