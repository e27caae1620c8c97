/- The reference's join of two levels. -/
import Derived.Test.YtdpfpdejipkffaaSTab
namespace Go.Ab
set_option linter.unusedVariables false
set_option linter.unusedSimpArgs false
theorem join9_ok {t : List FV} {L : Lt} (T : IsTab t L) (O : L.Ok) {a b : Nat} (ha : a < L.n) (hb : b < L.n) : Rt N_ref09_Join [.fz (.sl t), .fz (.int .i64 a), .fz (.int .i64 b)] = some ([.fz (.int .i64 (L.join a b))], []) := by
  refine rt_call A_ref09_Join rfl rfl 0 ?_
  rw [E_ref09_Join, rJoin_ok T O.n8 ha hb, flt_join O ha hb]
  simp [onR_some, ints]

end Go.Ab
