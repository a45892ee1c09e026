/-
  XformMeets answers true.
-/
import Derived.Test.YtmhpninemdmbkaaDoorXCAx1
import Derived.Test.YtmhpninemdmbkaaDoorXCAw8
set_option linter.unusedSimpArgs false
set_option linter.unusedVariables false
set_option linter.defProp false

-- CAx5
section
namespace Go.Proofs
open Go Go.Rw
set_option maxRecDepth 100000
set_option linter.unusedSimpArgs false
set_option linter.unusedVariables false

end Go.Proofs
end
