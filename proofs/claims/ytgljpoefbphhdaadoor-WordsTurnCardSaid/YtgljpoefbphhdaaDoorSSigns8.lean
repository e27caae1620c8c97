/- A text's signs, one by one. -/
import Derived.Test.YtgljpoefbphhdaaDoorSSplit
namespace Go.Ab
set_option linter.unusedVariables false
set_option linter.unusedSimpArgs false
set_option linter.unusedSectionVars false
end Go.Ab
