/- Nodes that may be, plainly. -/
import Derived.Test.YtdpfpdejipkffaaSNode2
import Derived.Test.YtdpfpdejipkffaaSLatLaw
namespace Go.Ab
set_option linter.unusedVariables false
set_option linter.unusedSimpArgs false
set_option linter.unusedSectionVars false
end Go.Ab
