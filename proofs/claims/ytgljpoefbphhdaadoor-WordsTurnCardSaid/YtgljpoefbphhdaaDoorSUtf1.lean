/- The signs of a text, as the reference reads them: all of them. -/
import Derived.Test.YtgljpoefbphhdaaDoorSUtf0
namespace Go.Ab
set_option linter.unusedVariables false
set_option linter.unusedSimpArgs false
set_option linter.unusedSectionVars false

section
variable (s : ByteArray) (hs : s.size ≤ 8796093022208)
include hs

end
end Go.Ab
