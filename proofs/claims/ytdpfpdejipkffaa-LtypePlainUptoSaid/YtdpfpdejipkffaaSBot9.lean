/- The reference's bottom. -/
import Derived.Test.YtdpfpdejipkffaaSTab9J
namespace Go.Ab
set_option linter.unusedVariables false
set_option linter.unusedSimpArgs false
def isBottom (L : Lt) (c : Nat) : Bool := allI (fun d => L.leq c d) L.n 0
theorem Bottom1 {t : List FV} {L : Lt} (T : IsTab t L) (h8 : L.n ≤ 8) {c K : Nat} (hc : c < L.n) : ∀ (m d N : Nat) (is : Bool), d + m = L.n → m < N →
    L_ref09_Bottom_1_0 Rt K true N t c is d = some (.exit 2, X_ref09_Bottom_1_0 t c (is && allI (fun d => L.leq c d) m d))
  | m, d, 0, _, _, h => by omega
  | 0, d, N + 1, is, h, _ => by
    rw [L_ref09_Bottom_1_0_eq, T.len]
    simp [show ¬ ((d : Int) < (L.n : Int)) by omega, allI]
  | m + 1, d, N + 1, is, h, hN => by
    have hd : d < L.n := by omega
    have ih := fun is => Bottom1 T h8 (K := K) hc m (d + 1) N is (by omega) (by omega)
    have hlt : decide ((d : Int) < (L.n : Int)) = true := by simp; omega
    rw [L_ref09_Bottom_1_0_eq, T.len]
    simp only [dlt hc, dlt hd, Int.toNat_natCast, T.fits c hc, T.sl c hc, T.rlen c hc, T.cell c d hc hd, fits_bool, isBool_bool, toBool_bool, when_true', wrn (show d < 1152921504606846976 by omega), ih, allI]
    rw [hlt, ifB_true]
    cases is <;> simp
theorem Bottom2 {t : List FV} {L : Lt} (T : IsTab t L) (O : L.Ok) {K : Nat} (hK : 9 < K) : ∀ (m c N : Nat), c + m = L.n → c ≤ L.bot → m < N →
    onL (L_ref09_Bottom_2_0 Rt K true N t c) (K_ref09_Bottom_2 Rt K true) = some ([.fz (.int .i64 L.bot)], [])
  | m, d, 0, _, _, h => by omega
  | 0, c, N + 1, h, hb, _ => by have := O.bot; omega
  | m + 1, c, N + 1, h, hb, hN => by
    have h8 := O.n8
    have hc : c < L.n := by omega
    have hlt : decide ((c : Int) < (L.n : Int)) = true := by simp; omega
    have i1 := Bottom1 T O.n8 (K := K) hc L.n 0 K true (by omega) (by omega)
    simp only [Int.natCast_zero] at i1
    rw [L_ref09_Bottom_2_0_eq, T.len]
    simp only [hlt, ifB_true, i1, onL_some, X_ref09_Bottom_1_0_eq, Bool.true_and, wrn (show c < 1152921504606846976 by omega)]
    cases q : allI (fun d => L.leq c d) L.n 0 with
    | true =>
      have q := allI_iff.1 q
      have e : c = L.bot := O.anti _ _ hc O.bot (q _ (by omega) (by have := O.bot; omega)) (O.botle c hc)
      subst e
      simp only [ifB_true, onL_some, X_ref09_Bottom_2_1_eq]
    | false =>
      have e : c ≠ L.bot := fun e => by
        have : allI (fun d => L.leq c d) L.n 0 = true := allI_iff.2 fun d _ hd => by subst e; exact O.botle d (by omega)
        rw [this] at q; cases q
      simp only [ifB_false]
      exact Bottom2 T O hK m (c + 1) N (by omega) (by omega) (by omega)
theorem bottom9_ok {t : List FV} {L : Lt} (T : IsTab t L) (O : L.Ok) : Rt N_ref09_Bottom [.fz (.sl t)] = some ([.fz (.int .i64 L.bot)], []) := by
  refine rt_call A_ref09_Bottom rfl rfl 12 ?_
  rw [E_ref09_Bottom]
  have h8 := O.n8
  exact Bottom2 T O (by omega) L.n 0 12 (by omega) (by omega) (by omega)
end Go.Ab
