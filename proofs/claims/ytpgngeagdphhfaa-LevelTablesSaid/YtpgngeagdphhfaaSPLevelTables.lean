/- LevelTables: the plain law. -/
import Derived.Test.YtpgngeagdphhfaaSPLevelMakes
namespace Go.Ab
open Go.Proofs
set_option linter.unusedVariables false
set_option linter.unusedSimpArgs false

theorem tabs1 {e : FV} {t : List FV} {L : Lt} (I : IsLat e L) (T : IsTab t L) {a K : Nat} (ha : a < L.n) : ∀ (m b N : Nat), b + m = L.n → m < N →
    L_law01_LevelTables_1_0 Rt K true N (.pt 195 true e 0) (.sl t) a b = some (.exit 2, X_law01_LevelTables_1_1 (.pt 195 true e 0) (.sl t) a)
  | m, b, 0, _, h => by omega
  | 0, b, N + 1, h, _ => by
    rw [L_law01_LevelTables_1_0_eq, isSl_sl, toSl_sl, T.len]
    simp [show ¬ ((b : Int) < (L.n : Int)) by omega]
  | m + 1, b, N + 1, h, hN => by
    have h8 := I.ok.n8
    have hb : b < L.n := by omega
    have ih := tabs1 I T (K := K) ha m (b + 1) N (by omega) (by omega)
    have hlt : decide ((b : Int) < (L.n : Int)) = true := by simp; omega
    have w := wrn (show b < 1152921504606846976 by omega)
    have l1 := lat_Leq I a b
    have j1 := lat_Join I a b
    have m1 := lat_Meet I a b
    rw [Lt.leqI_nat ha hb] at l1
    rw [Lt.joinI_nat ha hb] at j1
    rw [Lt.meetI_nat ha hb] at m1
    have j2 := rJoin_ok T h8 ha hb
    have m2 := rMeet_ok T h8 ha hb
    rw [flt_join I.ok ha hb] at j2
    rw [flt_meet I.ok ha hb] at m2
    have i1 : ∀ n : Nat, (ints [n]) = [.int .i64 (n : Int)] := fun n => rfl
    rw [L_law01_LevelTables_1_0_eq, isSl_sl, toSl_sl, T.len]
    simp only [l1, j1, m1, j2, m2, i1, dlt ha, dlt hb, T.fits a ha, T.sl a ha, T.rlen a ha, T.cell a b ha hb, onR_some, onL_some, List.isEmpty_nil, allF_cons, allF_nil, Bool.and_true, Bool.true_and, when_true', List.getD_cons_zero, List.getD_cons_succ, isF_fz, toF_fz, isBool_bool, toBool_bool, isInt_int, toInt_int, isStr_str, toStr_str, isSl_sl, toSl_sl, List.length_cons, List.length_nil, List.all_cons, List.all_nil, lisFz_fz, ltoFz_fz, beq_self_eq_true, jump_true, ifB_true, ifB_false, isF_pv, isPv_pv, toV_pv, isNil_nilp, isNil_pt, isPt_pt, toAg_ag, cell_ag, isAg_ag, fits_ag, Int.toNat_natCast, Bool.not_true, Bool.not_false, fits_int, fits_bool, fits_str, fits_sl, bne_self_eq_false, Nat.lt_add_one, decide_true, w, ih]
    rw [hlt, ifB_true]
    rfl
theorem tabs2 {e : FV} {t : List FV} {L : Lt} (I : IsLat e L) (T : IsTab t L) {K : Nat} (hK : 9 < K) : ∀ (m a N : Nat), a + m = L.n → m < N →
    onL (L_law01_LevelTables_2_0 Rt K true N (.pt 195 true e 0) (.sl t) a) (K_law01_LevelTables_2 Rt K true) = some ([.fz (.bool true)], [])
  | m, b, 0, _, h => by omega
  | 0, a, N + 1, h, _ => by
    have hl := lives01_ok
    rw [L_law01_LevelTables_2_0_eq, isSl_sl, toSl_sl, T.len]
    simp only [show decide ((a : Int) < (L.n : Int)) = false by simp; omega, onR_some, onL_some, List.isEmpty_nil, allF_cons, allF_nil, Bool.and_true, Bool.true_and, when_true', List.getD_cons_zero, List.getD_cons_succ, isF_fz, toF_fz, isBool_bool, toBool_bool, isInt_int, toInt_int, isStr_str, toStr_str, isSl_sl, toSl_sl, List.length_cons, List.length_nil, List.all_cons, List.all_nil, lisFz_fz, ltoFz_fz, beq_self_eq_true, jump_true, ifB_true, ifB_false, isF_pv, isPv_pv, toV_pv, isNil_nilp, isNil_pt, isPt_pt, toAg_ag, cell_ag, isAg_ag, fits_ag, Int.toNat_natCast, Bool.not_true, Bool.not_false, fits_int, fits_bool, fits_str, fits_sl, X_law01_LevelTables_2_0_eq, hl]
  | m + 1, a, N + 1, h, hN => by
    have O := I.ok
    have h8 := O.n8
    have ha : a < L.n := by omega
    have ih := tabs2 I T (K := K) hK m (a + 1) N (by omega) (by omega)
    have hlt : decide ((a : Int) < (L.n : Int)) = true := by simp; omega
    have w := wrn (show a < 1152921504606846976 by omega)
    have t1 := tabs1 I T (K := K) ha L.n 0 K (by omega) (by omega)
    simp only [Int.natCast_zero] at t1
    have b1 := lat_Bottom I
    have b2 := lat_Top I
    rw [L_law01_LevelTables_2_0_eq, isSl_sl, toSl_sl, T.len, when_true', hlt, ifB_true, t1]
    have hX : K_law01_LevelTables_1 Rt K true N (.exit 2) (X_law01_LevelTables_1_1 (.pt 195 true e 0) (.sl t) a) = L_law01_LevelTables_2_0 Rt K true N (.pt 195 true e 0) (.sl t) ((a + 1 : Nat) : Int) := by
      rw [X_law01_LevelTables_1_1_eq]
      simp only [b1, b2, dlt ha, dlt O.bot, dlt O.top, T.fits a ha, T.sl a ha, T.rlen a ha, T.fits _ O.bot, T.sl _ O.bot, T.rlen _ O.bot, T.cell L.bot a O.bot ha, T.cell a L.top ha O.top, T.len, O.botle a ha, O.letop a ha, onR_some, onL_some, List.isEmpty_nil, allF_cons, allF_nil, Bool.and_true, Bool.true_and, when_true', List.getD_cons_zero, List.getD_cons_succ, isF_fz, toF_fz, isBool_bool, toBool_bool, isInt_int, toInt_int, isStr_str, toStr_str, isSl_sl, toSl_sl, List.length_cons, List.length_nil, List.all_cons, List.all_nil, lisFz_fz, ltoFz_fz, beq_self_eq_true, jump_true, ifB_true, ifB_false, isF_pv, isPv_pv, toV_pv, isNil_nilp, isNil_pt, isPt_pt, toAg_ag, cell_ag, isAg_ag, fits_ag, Int.toNat_natCast, Bool.not_true, Bool.not_false, fits_int, fits_bool, fits_str, fits_sl, w]
    rw [onL_some, hX, ih]
theorem pure_LevelTables (f0 : FV) (h0 : WV Try.prog 40 140737488351232 26 f0) : Rt N_law01_LevelTables [.fz f0] = some ([.fz (.bool true)], []) := by
  obtain ⟨names, pairs, pp, rfl, _⟩ := pol_of (tn := 9) (tp := 46) (tpp := 84) (by kernel_rfl) (by kernel_rfl) (by kernel_rfl) (by kernel_rfl) (by kernel_rfl) (by kernel_rfl) h0
  obtain ⟨g, hg, hn⟩ := New_two names pairs pp
  obtain ⟨b, hb⟩ := light_ok names pairs pp
  have hc := Check_ok pp hg
  have hl := lives01_ok
  refine rt_call A_law01_LevelTables rfl rfl 12 ((E_law01_LevelTables Rt 12 true _ _ _).trans ?_)
  have hT := fun h => Table_ok (names := names) (pairs := pairs) pp h
  unfold polE at hn hb hc hT
  rw [hb]
  cases b with
  | false => simp only [onR_some, onL_some, List.isEmpty_nil, allF_cons, allF_nil, Bool.and_true, Bool.true_and, when_true', List.getD_cons_zero, List.getD_cons_succ, isF_fz, toF_fz, isBool_bool, toBool_bool, isInt_int, toInt_int, isStr_str, toStr_str, isSl_sl, toSl_sl, List.length_cons, List.length_nil, List.all_cons, List.all_nil, lisFz_fz, ltoFz_fz, beq_self_eq_true, jump_true, ifB_true, ifB_false, isF_pv, isPv_pv, toV_pv, isNil_nilp, isNil_pt, isPt_pt, toAg_ag, cell_ag, isAg_ag, fits_ag, Int.toNat_natCast, Bool.not_true, Bool.not_false, fits_int, fits_bool, fits_str, fits_sl, hl]
  | true =>
    rcases hn with ⟨h0, N, hn⟩ | ⟨h0, hn⟩
    · rw [h0] at hc
      have hnm : namedB names = true := by
        unfold newC at h0
        cases q : namedB names with
        | true => rfl
        | false => rw [q] at h0; cases h0
      have hla : laidB names.length pairs = true := by
        unfold newC at h0
        rw [hnm] at h0
        cases q : laidB names.length pairs with
        | true => rfl
        | false => rw [q] at h0; cases h0
      have I := latR_is N
      have T := tab_is (by have := hla; simp only [laidB, Bool.and_eq_true] at this; exact this.2) (hg hnm)
      have hs := lat_Size I
      have hT' := hT N.n8 hla
      have t2 := tabs2 I T (K := 12) (by omega) (ltR names.length g).n 0 12 (by omega) (by have := N.n8; show names.length < 12; omega)
      simp only [Int.natCast_zero] at t2
      have e1 : (((ltR names.length g).n : Int) != (names.length : Int)) = false := by show ((names.length : Int) != names.length) = false; simp
      simp only [hc, onR_some, onL_some, List.isEmpty_nil, allF_cons, allF_nil, Bool.and_true, Bool.true_and, when_true', List.getD_cons_zero, List.getD_cons_succ, isF_fz, toF_fz, isBool_bool, toBool_bool, isInt_int, toInt_int, isStr_str, toStr_str, isSl_sl, toSl_sl, List.length_cons, List.length_nil, List.all_cons, List.all_nil, lisFz_fz, ltoFz_fz, beq_self_eq_true, jump_true, ifB_true, ifB_false, isF_pv, isPv_pv, toV_pv, isNil_nilp, isNil_pt, isPt_pt, toAg_ag, cell_ag, isAg_ag, fits_ag, Int.toNat_natCast, Bool.not_true, Bool.not_false, fits_int, fits_bool, fits_str, fits_sl, bne_self_eq_false, J_law01_LevelTables_5_0_eq, hn, hT', hs, tabL_len, e1, Bool.true_or, J_law01_LevelTables_4_0_eq, t2]
    · have e0 : (newC names pairs g != 0) = true := by simpa using h0
      simp only [hc, onR_some, onL_some, List.isEmpty_nil, allF_cons, allF_nil, Bool.and_true, Bool.true_and, when_true', List.getD_cons_zero, List.getD_cons_succ, isF_fz, toF_fz, isBool_bool, toBool_bool, isInt_int, toInt_int, isStr_str, toStr_str, isSl_sl, toSl_sl, List.length_cons, List.length_nil, List.all_cons, List.all_nil, lisFz_fz, ltoFz_fz, beq_self_eq_true, jump_true, ifB_true, ifB_false, isF_pv, isPv_pv, toV_pv, isNil_nilp, isNil_pt, isPt_pt, toAg_ag, cell_ag, isAg_ag, fits_ag, Int.toNat_natCast, Bool.not_true, Bool.not_false, fits_int, fits_bool, fits_str, fits_sl, e0, hl]
end Go.Ab
