/- The program's texts: a sign's size, and whether it is a text. -/
import Derived.Test.YtgljpoefbphhdaaDoorSUtf2
namespace Go.Ab
set_option linter.unusedVariables false
set_option linter.unusedSimpArgs false
set_option linter.unusedSectionVars false

section
variable (s : ByteArray) (hs : s.size ≤ 1152921504606846976)
include hs

end

end Go.Ab
