/- A lattice's meets. -/
import Derived.Test.YtpgngeagdphhfaaSLat0
namespace Go.Ab
theorem lat_Meet {e : FV} {L : Lt} (I : IsLat e L) (a b : Int) : Rt N_level_Lattice_Meet [.fz (.pt 195 true e 0), .fz (.int .i64 a), .fz (.int .i64 b)] = some ([.fz (.int .i64 (L.meetI a b))], []) := by
  refine rt_call A_level_Lattice_Meet rfl rfl 0 ?_
  rw [E_level_Lattice_Meet, lat_Is I, lat_Is I, lat_Bottom I]
  unfold Lt.meetI
  cases ha : L.is a with
  | false => simp [onR_some]
  | true =>
    cases hb : L.is b with
    | false => simp [onR_some]
    | true =>
      have h1 := Lt.is_iff.1 ha
      have h2 := Lt.is_iff.1 hb
      have h8 := I.ok.n8
      have hl := I.meet a.toNat b.toNat (by omega) (by omega)
      have c : Nat.blt (129 + a.toNat * 8 + b.toNat * 1) 195 = true := by rw [Nat.blt_eq]; omega
      rw [Nat.mul_one] at hl c
      simp [onR_some, J_level_Lattice_Meet_1_0_eq, hl, I.ag, c, h1.1, h2.1, show a < 8 by omega, show b < 8 by omega]
end Go.Ab
