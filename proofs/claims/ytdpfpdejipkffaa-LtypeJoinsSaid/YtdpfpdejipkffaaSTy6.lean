/- The least type that a node fits, plainly. -/
import Derived.Test.YtdpfpdejipkffaaSTy5
namespace Go.Ab
set_option linter.unusedVariables false
set_option linter.unusedSimpArgs false
set_option linter.unusedSectionVars false
theorem join_self {L : Lt} (O : L.Ok) {x : Nat} (hx : x < L.n) : L.join x x = x := O.join_eq hx hx hx (O.refl _ hx) (O.refl _ hx) fun d hd y _ => y
end Go.Ab
