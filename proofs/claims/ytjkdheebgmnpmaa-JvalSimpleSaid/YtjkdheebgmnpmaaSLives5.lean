/- The law's fixed answer. -/
import Derived.Test.YtjkdheebgmnpmaaSJval2
namespace Go.Ab
theorem lives5_ok : Rt N_law05_lives [] = some ([.fz (.bool true)], []) := RR_tells.2 ⟨12, by kernel_rfl⟩
end Go.Ab
