/- The reference's bottom. -/
import Derived.Test.YtdpfpdejipkffaaSTab9J
namespace Go.Ab
set_option linter.unusedVariables false
set_option linter.unusedSimpArgs false
end Go.Ab
