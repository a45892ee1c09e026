/-
  The document's Text.
-/
import Derived.Test.YtmhpninemdmbkaaDoorXCUt1
import Derived.Test.YtmhpninemdmbkaaDoorRwF
set_option linter.unusedSimpArgs false
set_option linter.unusedVariables false
set_option linter.defProp false

-- CUt8
section
namespace Go.Proofs
open Go Go.Rw Go.RowKit
set_option maxRecDepth 100000
set_option linter.unusedSimpArgs false
set_option linter.unusedVariables false

end Go.Proofs
end
