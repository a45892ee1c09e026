/-
  XformMeets answers true.
-/
import Derived.Test.YtmhpninemdmbkaaGreatDoorXZAx1
import Derived.Test.YtmhpninemdmbkaaGreatDoorXZAw8
set_option linter.unusedSimpArgs false
set_option linter.unusedVariables false
set_option linter.defProp false

-- ZAx5
section
namespace Go.Proofs
open Go Go.Rw
set_option maxRecDepth 100000
end Go.Proofs
end
