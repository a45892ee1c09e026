/-
  Nodes held against each other, field by field.
-/
import Derived.Test.YtmhpninemdmbkaaGreatDoorXZUk0
import Derived.Test.YtmhpninemdmbkaaGreatDoorXZUo2
set_option linter.unusedSimpArgs false
set_option linter.unusedVariables false
set_option linter.defProp false

-- ZUk1e
section
namespace Go.Proofs
open Go Go.Rw
set_option maxRecDepth 100000
section
variable {P : Program}
end
end Go.Proofs
end
