/- A lattice of some policy, and its table. -/
import Derived.Test.YtdpfpdejipkffaaSSix
namespace Go.Ab
theorem of_ok (k : Int) : ∃ (e : FV) (t : List FV) (L : Lt), Rt N_law25_of [.fz (.int .i64 k)] = some ([.fz (.pt 195 true e 0), .fz (.sl t)], []) ∧ IsLat e L ∧ IsTab t L := by
  obtain ⟨P, hP, hS⟩ := Sort_ok k
  refine ⟨_, _, _, ?_, Pol.lat hP, Pol.tab hP⟩
  refine rt_call A_law25_of rfl rfl 0 ?_
  rw [E_law25_of, hS]
  have hf : FV.fits 3 true P.e = true := rfl
  simp only [onR_some, List.isEmpty_nil, allF_cons, allF_nil, Bool.and_true, when_true', List.getD_cons_zero, List.getD_cons_succ, toF_fz, hf, Pol.new hP, Pol.table hP, isInt_int]
end Go.Ab
