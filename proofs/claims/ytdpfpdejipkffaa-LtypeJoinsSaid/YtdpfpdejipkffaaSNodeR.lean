/- Nodes as arguments; the fixed answer of a law over nodes. -/
import Derived.Test.YtdpfpdejipkffaaSNode0
import Derived.Test.YtdpfpdejipkffaaSReadB
import Derived.Test.YtdpfpdejipkffaaSOf
namespace Go.Ab
set_option linter.unusedVariables false
set_option linter.unusedSimpArgs false
set_option linter.unusedSectionVars false
section
variable {P : Program} {D B : Nat} {t ts : Nat} (hB : B ≤ 134217728) (hft : flat P D t = [.int .i64, .int .i64, .int .i64, .int .i64, .int .i64, .str, .sl t, .sl ts]) (hfs : flat P D ts = [.str]) (hst : szOf P t = some (8, true)) (hss : szOf P ts = some (1, false)) (hb : P.bytesOf t = 104) (hbs : P.bytesOf ts = 16)
include hB hft hfs hst hss hb hbs
end
theorem lives25_ok : Rt N_law25_lives [] = some ([.fz (.bool true)], []) := RR_tells.2 ⟨40, by kernel_rfl⟩
end Go.Ab
