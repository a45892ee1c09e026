/-
  Two transactions with nothing in common. Plain.
-/
import Derived.Test.YtmhpninemdmbkaaGreatDoorXZUk3
import Derived.Test.YtmhpninemdmbkaaGreatDoorXZUn4
import Derived.Test.YtmhpninemdmbkaaGreatDoorXZUe11
set_option linter.unusedSimpArgs false
set_option linter.unusedVariables false
set_option linter.defProp false

-- ZUk8
section
namespace Go.Proofs
open Go Go.Rw
set_option maxRecDepth 100000
set_option linter.unusedSimpArgs false
set_option linter.unusedVariables false

end Go.Proofs
end
