/- Whether a text begins with a sign, as the program asks, is what the reference reads. -/
import Derived.Test.YtgljpoefbphhdaaDoorSUtf1
namespace Go.Ab
set_option linter.unusedVariables false
set_option linter.unusedSimpArgs false
set_option linter.unusedSectionVars false

section
variable {c : UInt8} {r : List UInt8} (hb : ¬ (248 ≤ c.toNat ∨ (128 ≤ c.toNat ∧ c.toNat < 192) ∨ r.length + 1 < headN c.toNat))
include hb
end
end Go.Ab
