/-
  ComposeAsks answers true. ComposeDoes answers true.
-/
import Derived.Test.YtmhpninemdmbkaaGreatDoorXZAw0
import Derived.Test.YtmhpninemdmbkaaGreatDoorXZAw9
set_option linter.unusedSimpArgs false
set_option linter.unusedVariables false
set_option linter.defProp false

-- ZAw8
section
namespace Go.Proofs
open Go Go.Rw
set_option maxRecDepth 100000
end Go.Proofs
end
-- ZAw10
section
namespace Go.Proofs
open Go Go.Rw
set_option maxRecDepth 100000
end Go.Proofs
end
